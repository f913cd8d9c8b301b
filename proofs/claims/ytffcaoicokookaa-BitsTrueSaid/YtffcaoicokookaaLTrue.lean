import Derived.Test.YtffcaoicokookaaP5
import Derived.Deep.DeepCutAuto
namespace Go.Proofs.Ytffcaoicokookaa
open Go.RowKit
attribute [local go_sem ↓] Go.wp_at_zero Go.wp_at_succ
set_option linter.unusedVariables false
set_option linter.unusedSimpArgs false

/-- No block is owned by both. -/
def Dj (u v : Value) : Prop := ∀ b, ¬ (u.ownBlock = some b ∧ v.ownBlock = some b)
theorem Dj.symm {u v : Value} (h : Dj u v) : Dj v u := fun b e => h b ⟨e.2, e.1⟩
def Three (w : World) (B : Nat) (u v t : Value) (n1 n2 n3 : Nat) (l1 l2 l3 : List Int) : Prop :=
  w.ownsRow B 3 1 u n1 (ints l1) ∧ w.ownsRow B 3 1 v n2 (ints l2) ∧ w.ownsRow B 3 1 t n3 (ints l3) ∧ Dj u v ∧ Dj u t ∧ Dj v t
theorem Three.start (w : World) (B : Nat) : Three w B (.slice none 0 0) (.slice none 0 0) (.slice none 0 0) 0 0 0 [] [] [] :=
  ⟨World.ownsRow_nil _ _ _ _, World.ownsRow_nil _ _ _ _, World.ownsRow_nil _ _ _ _, fun b h => by simp [Value.ownBlock] at h, fun b h => by simp [Value.ownBlock] at h, fun b h => by simp [Value.ownBlock] at h⟩
theorem own_other {w w' : World} {B n : Nat} {u v : Value} {l : List Int} (h : w.ownsRow B 3 1 v n (ints l)) (hg : w.grownBy w' u.ownBlock) (d : Dj u v) : w'.ownsRow B 3 1 v n (ints l) := by
  refine h.kept hg ?_
  cases hv : v.ownBlock with
  | none => exact Or.inl rfl
  | some b => exact Or.inr fun e => d b ⟨e.symm, hv⟩
theorem dj_new {w : World} {B n : Nat} {u v : Value} {l : List Int} (h : w.ownsRow B 3 1 v n (ints l)) (d : Dj u v) {g n' cap : Nat} (hat : u.ownBlock = some g ∨ g = w.heap.size + 1) : Dj (.slice (some ⟨g, 0, none⟩) n' cap) v := by
  rintro b ⟨e1, e2⟩
  have hb : g = b := by simpa [Value.ownBlock] using e1
  subst hb
  rcases hat with h' | h'
  · exact d g ⟨h', e2⟩
  · have := (h.lt g e2).2; omega
section
variable {w w' : World} {B n1 n2 n3 : Nat} {u v t : Value} {l1 l2 l3 : List Int} {g n' cap : Nat} {l' : List Int}
theorem Three.push1 (h : Three w B u v t n1 n2 n3 l1 l2 l3) (ho : w'.ownsRow B 3 1 (.slice (some ⟨g, 0, none⟩) n' cap) n' (ints l')) (hg : w.grownBy w' u.ownBlock) (hat : u.ownBlock = some g ∨ g = w.heap.size + 1) : Three w' B (.slice (some ⟨g, 0, none⟩) n' cap) v t n' n2 n3 l' l2 l3 :=
  ⟨ho, own_other h.2.1 hg h.2.2.2.1, own_other h.2.2.1 hg h.2.2.2.2.1, dj_new h.2.1 h.2.2.2.1 hat, dj_new h.2.2.1 h.2.2.2.2.1 hat, h.2.2.2.2.2⟩
theorem Three.push2 (h : Three w B u v t n1 n2 n3 l1 l2 l3) (ho : w'.ownsRow B 3 1 (.slice (some ⟨g, 0, none⟩) n' cap) n' (ints l')) (hg : w.grownBy w' v.ownBlock) (hat : v.ownBlock = some g ∨ g = w.heap.size + 1) : Three w' B u (.slice (some ⟨g, 0, none⟩) n' cap) t n1 n' n3 l1 l' l3 :=
  ⟨own_other h.1 hg h.2.2.2.1.symm, ho, own_other h.2.2.1 hg h.2.2.2.2.2, (dj_new h.1 h.2.2.2.1.symm hat).symm, h.2.2.2.2.1, dj_new h.2.2.1 h.2.2.2.2.2 hat⟩
theorem Three.push3 (h : Three w B u v t n1 n2 n3 l1 l2 l3) (ho : w'.ownsRow B 3 1 (.slice (some ⟨g, 0, none⟩) n' cap) n' (ints l')) (hg : w.grownBy w' t.ownBlock) (hat : t.ownBlock = some g ∨ g = w.heap.size + 1) : Three w' B u v (.slice (some ⟨g, 0, none⟩) n' cap) n1 n2 n' l1 l2 l' :=
  ⟨own_other h.1 hg h.2.2.2.2.1.symm, own_other h.2.1 hg h.2.2.2.2.2.symm, ho, h.2.2.2.1, (dj_new h.1 h.2.2.2.2.1.symm hat).symm, (dj_new h.2.1 h.2.2.2.2.2.symm hat).symm⟩
end
theorem riseq (l r y : List Int) : risE l r y = isE l r y := by unfold risE isE; rw [setOk_eq]
theorem isA_len {l r y : List Int} (h : isA l r y = true) : l.length ≤ 3000 ∧ r.length ≤ 3000 := by
  have s := set_of_valB (isA_iff.1 h).1
  have := set_len s.1
  have := set_len s.2
  omega

set_option maxRecDepth 100000 in
set_option maxHeartbeats 8000000 in
theorem true_law (A : Option Addr) (n c : Nat) (l : List Int) (B : Option Addr) (m d : Nat) (r : List Int) (A' : Option Addr) (n' c' : Nat) (l' : List Int) (B' : Option Addr) (m' d' : Nat) (r' : List Int) (Y : Option Addr) (p cp : Nat) (y : List Int) (Z : Option Addr) (q cq : Nat) (z : List Int) (w : World) (hs : RdI w A n c l) (ht : RdI w B m d r) (hs' : RdI w A' n' c' l') (ht' : RdI w B' m' d' r') (hy : RdI w Y p cp y) (hz : RdI w Z q cq z) :
    Calls Try.prog 8 #[.agg #[.slice A n c, .slice B m d, .slice A' n' c', .slice B' m' d'], .slice Y p cp, .slice Z q cq] w (Give (.bool true) w) := by
  have hmy := hy.max
  have hmz := hz.max
  go_enter Try.func8, Try.ntmps8
  go_upto_region 1 with fail
  go_cut [7, 8] (fun a b wx => ∃ g h : Nat, a = .pointer (some ⟨g, 0, none⟩) ∧ b = .pointer (some ⟨h, 0, none⟩) ∧ Hid (Ext w wx) ∧
    (wx.cell? ⟨g, 0, none⟩ = some (.slice A n c) ∧ wx.cell? ⟨g, 1, none⟩ = some (.slice B m d) ∧ wx.cell? ⟨h, 0, none⟩ = some (.slice A' n' c') ∧ wx.cell? ⟨h, 1, none⟩ = some (.slice B' m' d')))
  case first =>
    go_region
    all_goals go_wp2_with fail
    all_goals go_meet
    all_goals exact ⟨_, _, rfl, rfl, ((((Ext.refl w).alloc_right _).alloc_right _).alloc_right _).drew_right, by go_simp, by go_simp, by go_simp, by go_simp⟩
  case rest =>
    obtain ⟨g, h, rfl, rfl, hE, c0_0_0, c0_0_1, c0_1_0, c0_1_1⟩ := hcut
    have s1 := hid (hs.ext hE.out)
    have t1 := hid (ht.ext hE.out)
    have s2 := hid (hs'.ext hE.out)
    have t2 := hid (ht'.ext hE.out)
    have s3 := hid (hy.ext hE.out)
    have s4 := hid (hz.ext hE.out)
    clear hs ht hs' ht' hy hz
    have lt_1 : g < wc.heap.size := World.block_lt_of_cell? wc _ c0_0_0
    have lt_2 : h < wc.heap.size := World.block_lt_of_cell? wc _ c0_1_0
    go_wp2_with fail
    refine (over_any _ _ _ _ _ _ _ _ _ s1.out t1.out).mono ?_
    rintro e w2 ⟨rfl, hx2⟩
    replace c0_0_0 := hx2.cell c0_0_0
    replace c0_0_1 := hx2.cell c0_0_1
    replace c0_1_0 := hx2.cell c0_1_0
    replace c0_1_1 := hx2.cell c0_1_1
    replace s1 := hid (s1.out.ext hx2)
    replace t1 := hid (t1.out.ext hx2)
    replace s2 := hid (s2.out.ext hx2)
    replace t2 := hid (t2.out.ext hx2)
    replace s3 := hid (s3.out.ext hx2)
    replace s4 := hid (s4.out.ext hx2)
    replace hE := hid (Ext.trans hE.out hx2)
    clear lt_1
    have lt_1 : g < w2.heap.size := World.block_lt_of_cell? w2 _ c0_0_0
    clear lt_2
    have lt_2 : h < w2.heap.size := World.block_lt_of_cell? w2 _ c0_1_0
    clear hx2
    rcases Bool.eq_false_or_eq_true (overB n m) with o1 | o1
    · go_wp2_with fail
      refine (known_any _).mono ?_
      rintro e w3 ⟨rfl, hx3⟩
      replace c0_0_0 := hx3.cell c0_0_0
      replace c0_0_1 := hx3.cell c0_0_1
      replace c0_1_0 := hx3.cell c0_1_0
      replace c0_1_1 := hx3.cell c0_1_1
      replace s1 := hid (s1.out.ext hx3)
      replace t1 := hid (t1.out.ext hx3)
      replace s2 := hid (s2.out.ext hx3)
      replace t2 := hid (t2.out.ext hx3)
      replace s3 := hid (s3.out.ext hx3)
      replace s4 := hid (s4.out.ext hx3)
      replace hE := hid (Ext.trans hE.out hx3)
      clear lt_1
      have lt_1 : g < w3.heap.size := World.block_lt_of_cell? w3 _ c0_0_0
      clear lt_2
      have lt_2 : h < w3.heap.size := World.block_lt_of_cell? w3 _ c0_1_0
      clear hx3
      go_wp2
      go_ret
      exact ⟨rfl, hE.out⟩
    go_wp2_with fail
    refine (over_any _ _ _ _ _ _ _ _ _ s2.out t2.out).mono ?_
    rintro e w3 ⟨rfl, hx3⟩
    replace c0_0_0 := hx3.cell c0_0_0
    replace c0_0_1 := hx3.cell c0_0_1
    replace c0_1_0 := hx3.cell c0_1_0
    replace c0_1_1 := hx3.cell c0_1_1
    replace s1 := hid (s1.out.ext hx3)
    replace t1 := hid (t1.out.ext hx3)
    replace s2 := hid (s2.out.ext hx3)
    replace t2 := hid (t2.out.ext hx3)
    replace s3 := hid (s3.out.ext hx3)
    replace s4 := hid (s4.out.ext hx3)
    replace hE := hid (Ext.trans hE.out hx3)
    clear lt_1
    have lt_1 : g < w3.heap.size := World.block_lt_of_cell? w3 _ c0_0_0
    clear lt_2
    have lt_2 : h < w3.heap.size := World.block_lt_of_cell? w3 _ c0_1_0
    clear hx3
    rcases Bool.eq_false_or_eq_true (overB n' m') with o2 | o2
    · go_wp2_with fail
      refine (known_any _).mono ?_
      rintro e w4 ⟨rfl, hx4⟩
      replace c0_0_0 := hx4.cell c0_0_0
      replace c0_0_1 := hx4.cell c0_0_1
      replace c0_1_0 := hx4.cell c0_1_0
      replace c0_1_1 := hx4.cell c0_1_1
      replace s1 := hid (s1.out.ext hx4)
      replace t1 := hid (t1.out.ext hx4)
      replace s2 := hid (s2.out.ext hx4)
      replace t2 := hid (t2.out.ext hx4)
      replace s3 := hid (s3.out.ext hx4)
      replace s4 := hid (s4.out.ext hx4)
      replace hE := hid (Ext.trans hE.out hx4)
      clear lt_1
      have lt_1 : g < w4.heap.size := World.block_lt_of_cell? w4 _ c0_0_0
      clear lt_2
      have lt_2 : h < w4.heap.size := World.block_lt_of_cell? w4 _ c0_1_0
      clear hx4
      go_wp2
      go_ret
      exact ⟨rfl, hE.out⟩
    rcases Bool.eq_false_or_eq_true (decide ((3000 : Int) < (p : Int))) with o3 | o3
    · go_wp2_with fail
      refine (known_any _).mono ?_
      rintro e w4 ⟨rfl, hx4⟩
      replace c0_0_0 := hx4.cell c0_0_0
      replace c0_0_1 := hx4.cell c0_0_1
      replace c0_1_0 := hx4.cell c0_1_0
      replace c0_1_1 := hx4.cell c0_1_1
      replace s1 := hid (s1.out.ext hx4)
      replace t1 := hid (t1.out.ext hx4)
      replace s2 := hid (s2.out.ext hx4)
      replace t2 := hid (t2.out.ext hx4)
      replace s3 := hid (s3.out.ext hx4)
      replace s4 := hid (s4.out.ext hx4)
      replace hE := hid (Ext.trans hE.out hx4)
      clear lt_1
      have lt_1 : g < w4.heap.size := World.block_lt_of_cell? w4 _ c0_0_0
      clear lt_2
      have lt_2 : h < w4.heap.size := World.block_lt_of_cell? w4 _ c0_1_0
      clear hx4
      go_wp2
      go_ret
      exact ⟨rfl, hE.out⟩
    rcases Bool.eq_false_or_eq_true (decide ((3000 : Int) < (q : Int))) with o4 | o4
    · go_wp2_with fail
      refine (known_any _).mono ?_
      rintro e w4 ⟨rfl, hx4⟩
      replace c0_0_0 := hx4.cell c0_0_0
      replace c0_0_1 := hx4.cell c0_0_1
      replace c0_1_0 := hx4.cell c0_1_0
      replace c0_1_1 := hx4.cell c0_1_1
      replace s1 := hid (s1.out.ext hx4)
      replace t1 := hid (t1.out.ext hx4)
      replace s2 := hid (s2.out.ext hx4)
      replace t2 := hid (t2.out.ext hx4)
      replace s3 := hid (s3.out.ext hx4)
      replace s4 := hid (s4.out.ext hx4)
      replace hE := hid (Ext.trans hE.out hx4)
      clear lt_1
      have lt_1 : g < w4.heap.size := World.block_lt_of_cell? w4 _ c0_0_0
      clear lt_2
      have lt_2 : h < w4.heap.size := World.block_lt_of_cell? w4 _ c0_1_0
      clear hx4
      go_wp2
      go_ret
      exact ⟨rfl, hE.out⟩
    have a1 : n ≤ 3000 ∧ m ≤ 3000 := by simp [overB] at o1; omega
    have a2 : n' ≤ 3000 ∧ m' ≤ 3000 := by simp [overB] at o2; omega
    have a3 : p ≤ 3000 := by simp at o3; omega
    have a4 : q ≤ 3000 := by simp at o4; omega
    have f1 : (isA l r y != isA l r y) = false := by simp
    have f2 : (isE l r y != isE l r y) = false := by simp
    go_wp2_with fail
    refine (True_any _ _ _ _ _ _ _ _ _ _ _ _ _ s1.out t1.out s3.out a1.1 a1.2 a3).mono ?_
    rintro e w4 ⟨rfl, hx4⟩
    replace c0_0_0 := hx4.cell c0_0_0
    replace c0_0_1 := hx4.cell c0_0_1
    replace c0_1_0 := hx4.cell c0_1_0
    replace c0_1_1 := hx4.cell c0_1_1
    replace s1 := hid (s1.out.ext hx4)
    replace t1 := hid (t1.out.ext hx4)
    replace s2 := hid (s2.out.ext hx4)
    replace t2 := hid (t2.out.ext hx4)
    replace s3 := hid (s3.out.ext hx4)
    replace s4 := hid (s4.out.ext hx4)
    replace hE := hid (Ext.trans hE.out hx4)
    clear lt_1
    have lt_1 : g < w4.heap.size := World.block_lt_of_cell? w4 _ c0_0_0
    clear lt_2
    have lt_2 : h < w4.heap.size := World.block_lt_of_cell? w4 _ c0_1_0
    clear hx4
    go_wp2_with fail
    refine (((rTrue_any _ _ _ _ _ _ _ _ _ _ _ _ _ s1.out t1.out s3.out a1.1 a1.2 a3).mono fun e w' h => h.cast (isA_eq l r y).symm (riseq l r y))).mono ?_
    rintro e w5 ⟨rfl, hx5⟩
    replace c0_0_0 := hx5.cell c0_0_0
    replace c0_0_1 := hx5.cell c0_0_1
    replace c0_1_0 := hx5.cell c0_1_0
    replace c0_1_1 := hx5.cell c0_1_1
    replace s1 := hid (s1.out.ext hx5)
    replace t1 := hid (t1.out.ext hx5)
    replace s2 := hid (s2.out.ext hx5)
    replace t2 := hid (t2.out.ext hx5)
    replace s3 := hid (s3.out.ext hx5)
    replace s4 := hid (s4.out.ext hx5)
    replace hE := hid (Ext.trans hE.out hx5)
    clear lt_1
    have lt_1 : g < w5.heap.size := World.block_lt_of_cell? w5 _ c0_0_0
    clear lt_2
    have lt_2 : h < w5.heap.size := World.block_lt_of_cell? w5 _ c0_1_0
    clear hx5
    go_wp2_with fail
    refine (True_any _ _ _ _ _ _ _ _ _ _ _ _ _ s2.out t2.out s4.out a2.1 a2.2 a4).mono ?_
    rintro e w6 ⟨rfl, hx6⟩
    replace c0_0_0 := hx6.cell c0_0_0
    replace c0_0_1 := hx6.cell c0_0_1
    replace c0_1_0 := hx6.cell c0_1_0
    replace c0_1_1 := hx6.cell c0_1_1
    replace s1 := hid (s1.out.ext hx6)
    replace t1 := hid (t1.out.ext hx6)
    replace s2 := hid (s2.out.ext hx6)
    replace t2 := hid (t2.out.ext hx6)
    replace s3 := hid (s3.out.ext hx6)
    replace s4 := hid (s4.out.ext hx6)
    replace hE := hid (Ext.trans hE.out hx6)
    clear lt_1
    have lt_1 : g < w6.heap.size := World.block_lt_of_cell? w6 _ c0_0_0
    clear lt_2
    have lt_2 : h < w6.heap.size := World.block_lt_of_cell? w6 _ c0_1_0
    clear hx6
    rcases Bool.eq_false_or_eq_true (isE l r y != 0) with x1 | x1
    · go_wp2_with fail
      refine (known_any _).mono ?_
      rintro e w7 ⟨rfl, hx7⟩
      replace c0_0_0 := hx7.cell c0_0_0
      replace c0_0_1 := hx7.cell c0_0_1
      replace c0_1_0 := hx7.cell c0_1_0
      replace c0_1_1 := hx7.cell c0_1_1
      replace s1 := hid (s1.out.ext hx7)
      replace t1 := hid (t1.out.ext hx7)
      replace s2 := hid (s2.out.ext hx7)
      replace t2 := hid (t2.out.ext hx7)
      replace s3 := hid (s3.out.ext hx7)
      replace s4 := hid (s4.out.ext hx7)
      replace hE := hid (Ext.trans hE.out hx7)
      clear lt_1
      have lt_1 : g < w7.heap.size := World.block_lt_of_cell? w7 _ c0_0_0
      clear lt_2
      have lt_2 : h < w7.heap.size := World.block_lt_of_cell? w7 _ c0_1_0
      clear hx7
      go_wp2
      go_ret
      exact ⟨rfl, hE.out⟩
    rcases Bool.eq_false_or_eq_true (isE l' r' z != 0) with x2 | x2
    · go_wp2_with fail
      refine (known_any _).mono ?_
      rintro e w7 ⟨rfl, hx7⟩
      replace c0_0_0 := hx7.cell c0_0_0
      replace c0_0_1 := hx7.cell c0_0_1
      replace c0_1_0 := hx7.cell c0_1_0
      replace c0_1_1 := hx7.cell c0_1_1
      replace s1 := hid (s1.out.ext hx7)
      replace t1 := hid (t1.out.ext hx7)
      replace s2 := hid (s2.out.ext hx7)
      replace t2 := hid (t2.out.ext hx7)
      replace s3 := hid (s3.out.ext hx7)
      replace s4 := hid (s4.out.ext hx7)
      replace hE := hid (Ext.trans hE.out hx7)
      clear lt_1
      have lt_1 : g < w7.heap.size := World.block_lt_of_cell? w7 _ c0_0_0
      clear lt_2
      have lt_2 : h < w7.heap.size := World.block_lt_of_cell? w7 _ c0_1_0
      clear hx7
      go_wp2
      go_ret
      exact ⟨rfl, hE.out⟩
    rcases Bool.eq_false_or_eq_true (isA l r y) with i1 | i1
    rotate_left
    · go_wp2_with fail
      refine (known_any _).mono ?_
      rintro e w7 ⟨rfl, hx7⟩
      replace c0_0_0 := hx7.cell c0_0_0
      replace c0_0_1 := hx7.cell c0_0_1
      replace c0_1_0 := hx7.cell c0_1_0
      replace c0_1_1 := hx7.cell c0_1_1
      replace s1 := hid (s1.out.ext hx7)
      replace t1 := hid (t1.out.ext hx7)
      replace s2 := hid (s2.out.ext hx7)
      replace t2 := hid (t2.out.ext hx7)
      replace s3 := hid (s3.out.ext hx7)
      replace s4 := hid (s4.out.ext hx7)
      replace hE := hid (Ext.trans hE.out hx7)
      clear lt_1
      have lt_1 : g < w7.heap.size := World.block_lt_of_cell? w7 _ c0_0_0
      clear lt_2
      have lt_2 : h < w7.heap.size := World.block_lt_of_cell? w7 _ c0_1_0
      clear hx7
      go_wp2
      go_ret
      exact ⟨rfl, hE.out⟩
    rcases Bool.eq_false_or_eq_true (isA l' r' z) with i2 | i2
    rotate_left
    · go_wp2_with fail
      refine (known_any _).mono ?_
      rintro e w7 ⟨rfl, hx7⟩
      replace c0_0_0 := hx7.cell c0_0_0
      replace c0_0_1 := hx7.cell c0_0_1
      replace c0_1_0 := hx7.cell c0_1_0
      replace c0_1_1 := hx7.cell c0_1_1
      replace s1 := hid (s1.out.ext hx7)
      replace t1 := hid (t1.out.ext hx7)
      replace s2 := hid (s2.out.ext hx7)
      replace t2 := hid (t2.out.ext hx7)
      replace s3 := hid (s3.out.ext hx7)
      replace s4 := hid (s4.out.ext hx7)
      replace hE := hid (Ext.trans hE.out hx7)
      clear lt_1
      have lt_1 : g < w7.heap.size := World.block_lt_of_cell? w7 _ c0_0_0
      clear lt_2
      have lt_2 : h < w7.heap.size := World.block_lt_of_cell? w7 _ c0_1_0
      clear hx7
      go_wp2
      go_ret
      exact ⟨rfl, hE.out⟩
    have T1 := hid (true_and i1 i2)
    have T2 := hid (true_or i1 i2)
    have T3 := hid (true_not i1)
    have v1 := hid (isA_iff.1 i1).1
    have v2 := hid (isA_iff.1 i2).1
    obtain ⟨i0, hi, ii0, ii1, ii2⟩ := info_parts Try.info3
    go_wp2_with fail
    go_loopw [15, 16, 17, 18] (fun u v t i wr => ∃ k n1 n2 n3 : Nat, k ≤ 300 ∧ i = .int .i64 ((k : Int) + 1) ∧ (n1 ≤ k ∧ n2 ≤ k ∧ n3 ≤ k) ∧ Hid (Three wr w6.heap.size u v t n1 n2 n3 (selTo (fIn y z) k) (selTo (fAny y z) k) (selTo (fNo y) k)) ∧ Hid (Ext w6 wr)) (fun _ _ _ i _ => 302 - (intOf i).toNat)
    case atStart => exact ⟨0, 0, 0, 0, by omega, by go_num, by omega, Three.start _ _, Ext.refl _⟩
    case round =>
      obtain ⟨k, n1, n2, n3, hk, rfl, hn3, h3, hb⟩ := hrel
      have hbs := hb.out.size
      by_cases hlt : k < 300
      · have ew := IntWalk.i64_in ((k : Int) + 1 + 1) (by omega)
        have lek : decide ((k : Int) + 1 ≤ 300) = true := by simp; omega
        go_wp2_with fail
        refine (has_any _ _ _ y _ _ (s3.out.ext hb.out)).mono ?_
        rintro e w' ⟨rfl, rfl⟩
        go_wp2_with fail
        refine (has_any _ _ _ z _ _ (s4.out.ext hb.out)).mono ?_
        rintro e w' ⟨rfl, rfl⟩
        rcases Bool.eq_false_or_eq_true (hasS y ((k : Int) + 1)) with hy1 | hy1
        · rcases Bool.eq_false_or_eq_true (hasS z ((k : Int) + 1)) with hz1 | hz1
          · have q1 := hid (selTo_yes (fIn y z) k (by simp [fIn, hy1, hz1]))
            have q2 := hid (selTo_yes (fAny y z) k (by simp [fAny, hy1, hz1]))
            have q3 := hid (selTo_no (fNo y) k (by simp [fNo, hy1]))
            go_wp2_with (at_builtin; refine wpList_pushI _ rfl _ _ 22 rfl w6.heap.size 3 i0 Try.underlying22 hi ii0 ii1 ii2 _ _ _ rfl h3.out.1 ((k : Int) + 1) rfl (by omega) hbs ?_)
            intro g1 cap1 wp1 own1 gr1 at1
            have h31 := hid (h3.out.push1 own1 gr1 at1)
            have hb1 : Hid (Ext w6 wp1) := below_push hb.out h3.out.1 gr1 hbs
            have hbs1 := hb1.out.size
            clear own1 gr1 at1
            go_wp2_with (at_builtin; refine wpList_pushI _ rfl _ _ 22 rfl w6.heap.size 3 i0 Try.underlying22 hi ii0 ii1 ii2 _ _ _ rfl h31.out.2.1 ((k : Int) + 1) rfl (by omega) hbs1 ?_)
            intro g2 cap2 wp2 own2 gr2 at2
            have h32 := hid (h31.out.push2 own2 gr2 at2)
            have hb2 : Hid (Ext w6 wp2) := below_push hb1.out h31.out.2.1 gr2 hbs1
            have hbs2 := hb2.out.size
            clear own2 gr2 at2
            go_wp2
            go_roundw
            case rel => exact ⟨k + 1, n1 + 1, n2 + 1, n3, by omega, by go_num, by omega, by unfold Hid; rw [q1.out, q2.out, q3.out]; exact h32.out, hb2⟩
            case measure => simp [intOf]; omega
          · have q1 := hid (selTo_no (fIn y z) k (by simp [fIn, hy1, hz1]))
            have q2 := hid (selTo_yes (fAny y z) k (by simp [fAny, hy1, hz1]))
            have q3 := hid (selTo_no (fNo y) k (by simp [fNo, hy1]))
            go_wp2_with (at_builtin; refine wpList_pushI _ rfl _ _ 22 rfl w6.heap.size 3 i0 Try.underlying22 hi ii0 ii1 ii2 _ _ _ rfl h3.out.2.1 ((k : Int) + 1) rfl (by omega) hbs ?_)
            intro g2 cap2 wp2 own2 gr2 at2
            have h32 := hid (h3.out.push2 own2 gr2 at2)
            have hb2 : Hid (Ext w6 wp2) := below_push hb.out h3.out.2.1 gr2 hbs
            have hbs2 := hb2.out.size
            clear own2 gr2 at2
            go_wp2
            go_roundw
            case rel => exact ⟨k + 1, n1, n2 + 1, n3, by omega, by go_num, by omega, by unfold Hid; rw [q1.out, q2.out, q3.out]; exact h32.out, hb2⟩
            case measure => simp [intOf]; omega
        · rcases Bool.eq_false_or_eq_true (hasS z ((k : Int) + 1)) with hz1 | hz1
          · have q1 := hid (selTo_no (fIn y z) k (by simp [fIn, hy1, hz1]))
            have q2 := hid (selTo_yes (fAny y z) k (by simp [fAny, hy1, hz1]))
            have q3 := hid (selTo_yes (fNo y) k (by simp [fNo, hy1]))
            go_wp2_with (at_builtin; refine wpList_pushI _ rfl _ _ 22 rfl w6.heap.size 3 i0 Try.underlying22 hi ii0 ii1 ii2 _ _ _ rfl h3.out.2.1 ((k : Int) + 1) rfl (by omega) hbs ?_)
            intro g2 cap2 wp2 own2 gr2 at2
            have h32 := hid (h3.out.push2 own2 gr2 at2)
            have hb2 : Hid (Ext w6 wp2) := below_push hb.out h3.out.2.1 gr2 hbs
            have hbs2 := hb2.out.size
            clear own2 gr2 at2
            go_wp2_with (at_builtin; refine wpList_pushI _ rfl _ _ 22 rfl w6.heap.size 3 i0 Try.underlying22 hi ii0 ii1 ii2 _ _ _ rfl h32.out.2.2.1 ((k : Int) + 1) rfl (by omega) hbs2 ?_)
            intro g3 cap3 wp3 own3 gr3 at3
            have h33 := hid (h32.out.push3 own3 gr3 at3)
            have hb3 : Hid (Ext w6 wp3) := below_push hb2.out h32.out.2.2.1 gr3 hbs2
            have hbs3 := hb3.out.size
            clear own3 gr3 at3
            go_wp2
            go_roundw
            case rel => exact ⟨k + 1, n1, n2 + 1, n3 + 1, by omega, by go_num, by omega, by unfold Hid; rw [q1.out, q2.out, q3.out]; exact h33.out, hb3⟩
            case measure => simp [intOf]; omega
          · have q1 := hid (selTo_no (fIn y z) k (by simp [fIn, hy1, hz1]))
            have q2 := hid (selTo_no (fAny y z) k (by simp [fAny, hy1, hz1]))
            have q3 := hid (selTo_yes (fNo y) k (by simp [fNo, hy1]))
            go_wp2_with (at_builtin; refine wpList_pushI _ rfl _ _ 22 rfl w6.heap.size 3 i0 Try.underlying22 hi ii0 ii1 ii2 _ _ _ rfl h3.out.2.2.1 ((k : Int) + 1) rfl (by omega) hbs ?_)
            intro g3 cap3 wp3 own3 gr3 at3
            have h33 := hid (h3.out.push3 own3 gr3 at3)
            have hb3 : Hid (Ext w6 wp3) := below_push hb.out h3.out.2.2.1 gr3 hbs
            have hbs3 := hb3.out.size
            clear own3 gr3 at3
            go_wp2
            go_roundw
            case rel => exact ⟨k + 1, n1, n2, n3 + 1, by omega, by go_num, by omega, by unfold Hid; rw [q1.out, q2.out, q3.out]; exact h33.out, hb3⟩
            case measure => simp [intOf]; omega
      · obtain rfl : k = 300 := by omega
        have hxl := hb.out
        replace c0_0_0 := hxl.cell c0_0_0
        replace c0_0_1 := hxl.cell c0_0_1
        replace c0_1_0 := hxl.cell c0_1_0
        replace c0_1_1 := hxl.cell c0_1_1
        replace s1 := hid (s1.out.ext hxl)
        replace t1 := hid (t1.out.ext hxl)
        replace s2 := hid (s2.out.ext hxl)
        replace t2 := hid (t2.out.ext hxl)
        replace s3 := hid (s3.out.ext hxl)
        replace s4 := hid (s4.out.ext hxl)
        replace hE := hid (Ext.trans hE.out hxl)
        clear lt_1
        have lt_1 : g < wr.heap.size := World.block_lt_of_cell? wr _ c0_0_0
        clear lt_2
        have lt_2 : h < wr.heap.size := World.block_lt_of_cell? wr _ c0_1_0
        obtain ⟨U1, cu1, rfl, -⟩ := own_form h3.out.1
        obtain ⟨U2, cu2, rfl, -⟩ := own_form h3.out.2.1
        obtain ⟨U3, cu3, rfl, -⟩ := own_form h3.out.2.2.1
        have R1 := hid (RdI.of_own h3.out.1)
        have R2 := hid (RdI.of_own h3.out.2.1)
        have R3 := hid (RdI.of_own h3.out.2.2.1)
        clear hxl h3 hb hbs
        go_wp2_with fail
        refine (And_yes _ _ _ _ _ _ _ _ _ _ _ _ _ _ _ _ _ s1.out t1.out s2.out t2.out a1.1 a1.2 a2.1 a2.2 v1.out v2.out).mono ?_
        rintro e w8 ⟨Xa, xa, cxa, Ya, ya, cya, rfl, rxa, rya, hx8, -, -⟩
        replace c0_0_0 := hx8.cell c0_0_0
        replace c0_0_1 := hx8.cell c0_0_1
        replace c0_1_0 := hx8.cell c0_1_0
        replace c0_1_1 := hx8.cell c0_1_1
        replace s1 := hid (s1.out.ext hx8)
        replace t1 := hid (t1.out.ext hx8)
        replace s2 := hid (s2.out.ext hx8)
        replace t2 := hid (t2.out.ext hx8)
        replace s3 := hid (s3.out.ext hx8)
        replace s4 := hid (s4.out.ext hx8)
        replace R1 := hid (R1.out.ext hx8)
        replace R2 := hid (R2.out.ext hx8)
        replace R3 := hid (R3.out.ext hx8)
        replace hE := hid (Ext.trans hE.out hx8)
        clear lt_1
        have lt_1 : g < w8.heap.size := World.block_lt_of_cell? w8 _ c0_0_0
        clear lt_2
        have lt_2 : h < w8.heap.size := World.block_lt_of_cell? w8 _ c0_1_0
        have Sa := hid rxa
        have Ta := hid rya
        clear hx8 rxa rya
        go_wp2_with fail
        refine (Or_yes _ _ _ _ _ _ _ _ _ _ _ _ _ _ _ _ _ (s1.out.alloc _) (t1.out.alloc _) (s2.out.alloc _) (t2.out.alloc _) a1.1 a1.2 a2.1 a2.2 v1.out v2.out).mono ?_
        rintro e w9 ⟨Xo, xo, cxo, Yo, yo, cyo, rfl, rxo, ryo, hx9, -, -⟩
        replace c0_0_0 := hx9.cell (cell_alloc c0_0_0 _)
        replace c0_0_1 := hx9.cell (cell_alloc c0_0_1 _)
        replace c0_1_0 := hx9.cell (cell_alloc c0_1_0 _)
        replace c0_1_1 := hx9.cell (cell_alloc c0_1_1 _)
        have c8_0_0 : w9.cell? ⟨w8.heap.size, 0, none⟩ = some (.slice Xa xa cxa) := hx9.cell (by go_simp)
        have c8_0_1 : w9.cell? ⟨w8.heap.size, 1, none⟩ = some (.slice Ya ya cya) := hx9.cell (by go_simp)
        replace s1 := hid ((s1.out.alloc _).ext hx9)
        replace t1 := hid ((t1.out.alloc _).ext hx9)
        replace s2 := hid ((s2.out.alloc _).ext hx9)
        replace t2 := hid ((t2.out.alloc _).ext hx9)
        replace s3 := hid ((s3.out.alloc _).ext hx9)
        replace s4 := hid ((s4.out.alloc _).ext hx9)
        replace R1 := hid ((R1.out.alloc _).ext hx9)
        replace R2 := hid ((R2.out.alloc _).ext hx9)
        replace R3 := hid ((R3.out.alloc _).ext hx9)
        replace Sa := hid ((Sa.out.alloc _).ext hx9)
        replace Ta := hid ((Ta.out.alloc _).ext hx9)
        replace hE := hid (Ext.trans (hE.out.alloc_right _) hx9)
        clear lt_1
        have lt_1 : g < w9.heap.size := World.block_lt_of_cell? w9 _ c0_0_0
        clear lt_2
        have lt_2 : h < w9.heap.size := World.block_lt_of_cell? w9 _ c0_1_0
        have lt_3 : w8.heap.size < w9.heap.size := World.block_lt_of_cell? w9 _ c8_0_0
        have So := hid rxo
        have To := hid ryo
        clear hx9 rxo ryo
        go_wp2_with fail
        refine (Not_any _ _ _ _ _ _ _ _ 300 _ (s1.out.alloc _) (t1.out.alloc _) a1.1 a1.2).mono ?_
        rintro e w10 ⟨Xn, xn, cxn, Yn, yn, cyn, rfl, rxn, ryn, hx10, -, -⟩
        replace c0_0_0 := hx10.cell (cell_alloc c0_0_0 _)
        replace c0_0_1 := hx10.cell (cell_alloc c0_0_1 _)
        replace c0_1_0 := hx10.cell (cell_alloc c0_1_0 _)
        replace c0_1_1 := hx10.cell (cell_alloc c0_1_1 _)
        replace c8_0_0 := hx10.cell (cell_alloc c8_0_0 _)
        replace c8_0_1 := hx10.cell (cell_alloc c8_0_1 _)
        have c9_0_0 : w10.cell? ⟨w9.heap.size, 0, none⟩ = some (.slice Xo xo cxo) := hx10.cell (by go_simp)
        have c9_0_1 : w10.cell? ⟨w9.heap.size, 1, none⟩ = some (.slice Yo yo cyo) := hx10.cell (by go_simp)
        replace s1 := hid ((s1.out.alloc _).ext hx10)
        replace t1 := hid ((t1.out.alloc _).ext hx10)
        replace s2 := hid ((s2.out.alloc _).ext hx10)
        replace t2 := hid ((t2.out.alloc _).ext hx10)
        replace s3 := hid ((s3.out.alloc _).ext hx10)
        replace s4 := hid ((s4.out.alloc _).ext hx10)
        replace R1 := hid ((R1.out.alloc _).ext hx10)
        replace R2 := hid ((R2.out.alloc _).ext hx10)
        replace R3 := hid ((R3.out.alloc _).ext hx10)
        replace Sa := hid ((Sa.out.alloc _).ext hx10)
        replace Ta := hid ((Ta.out.alloc _).ext hx10)
        replace So := hid ((So.out.alloc _).ext hx10)
        replace To := hid ((To.out.alloc _).ext hx10)
        replace hE := hid (Ext.trans (hE.out.alloc_right _) hx10)
        clear lt_1
        have lt_1 : g < w10.heap.size := World.block_lt_of_cell? w10 _ c0_0_0
        clear lt_2
        have lt_2 : h < w10.heap.size := World.block_lt_of_cell? w10 _ c0_1_0
        clear lt_3
        have lt_3 : w8.heap.size < w10.heap.size := World.block_lt_of_cell? w10 _ c8_0_0
        have lt_4 : w9.heap.size < w10.heap.size := World.block_lt_of_cell? w10 _ c9_0_0
        have Sn := hid rxn
        have Tn := hid ryn
        clear hx10 rxn ryn
        have za : xa ≤ 3000 ∧ ya ≤ 3000 := by have h1 := Sa.out.len; have h2 := Ta.out.len; have h3 := isA_len T1.out; omega
        go_wp2_with fail
        refine (True_any _ _ _ _ _ _ _ _ _ _ _ _ _ (Sa.out.alloc _) (Ta.out.alloc _) (R1.out.alloc _) za.1 za.2 (by omega)).mono ?_
        rintro e w11 ⟨rfl, hx11⟩
        replace c0_0_0 := hx11.cell (cell_alloc c0_0_0 _)
        replace c0_0_1 := hx11.cell (cell_alloc c0_0_1 _)
        replace c0_1_0 := hx11.cell (cell_alloc c0_1_0 _)
        replace c0_1_1 := hx11.cell (cell_alloc c0_1_1 _)
        replace c8_0_0 := hx11.cell (cell_alloc c8_0_0 _)
        replace c8_0_1 := hx11.cell (cell_alloc c8_0_1 _)
        replace c9_0_0 := hx11.cell (cell_alloc c9_0_0 _)
        replace c9_0_1 := hx11.cell (cell_alloc c9_0_1 _)
        have c10_0_0 : w11.cell? ⟨w10.heap.size, 0, none⟩ = some (.slice Xn xn cxn) := hx11.cell (by go_simp)
        have c10_0_1 : w11.cell? ⟨w10.heap.size, 1, none⟩ = some (.slice Yn yn cyn) := hx11.cell (by go_simp)
        replace s1 := hid ((s1.out.alloc _).ext hx11)
        replace t1 := hid ((t1.out.alloc _).ext hx11)
        replace s2 := hid ((s2.out.alloc _).ext hx11)
        replace t2 := hid ((t2.out.alloc _).ext hx11)
        replace s3 := hid ((s3.out.alloc _).ext hx11)
        replace s4 := hid ((s4.out.alloc _).ext hx11)
        replace R1 := hid ((R1.out.alloc _).ext hx11)
        replace R2 := hid ((R2.out.alloc _).ext hx11)
        replace R3 := hid ((R3.out.alloc _).ext hx11)
        replace Sa := hid ((Sa.out.alloc _).ext hx11)
        replace Ta := hid ((Ta.out.alloc _).ext hx11)
        replace So := hid ((So.out.alloc _).ext hx11)
        replace To := hid ((To.out.alloc _).ext hx11)
        replace Sn := hid ((Sn.out.alloc _).ext hx11)
        replace Tn := hid ((Tn.out.alloc _).ext hx11)
        replace hE := hid (Ext.trans (hE.out.alloc_right _) hx11)
        clear lt_1
        have lt_1 : g < w11.heap.size := World.block_lt_of_cell? w11 _ c0_0_0
        clear lt_2
        have lt_2 : h < w11.heap.size := World.block_lt_of_cell? w11 _ c0_1_0
        clear lt_3
        have lt_3 : w8.heap.size < w11.heap.size := World.block_lt_of_cell? w11 _ c8_0_0
        clear lt_4
        have lt_4 : w9.heap.size < w11.heap.size := World.block_lt_of_cell? w11 _ c9_0_0
        have lt_5 : w10.heap.size < w11.heap.size := World.block_lt_of_cell? w11 _ c10_0_0
        clear hx11
        have tt0 := T1.out
        have zo : xo ≤ 3000 ∧ yo ≤ 3000 := by have h1 := So.out.len; have h2 := To.out.len; have h3 := isA_len T2.out; omega
        go_wp2_with fail
        refine (True_any _ _ _ _ _ _ _ _ _ _ _ _ _ So.out To.out R2.out zo.1 zo.2 (by omega)).mono ?_
        rintro e w12 ⟨rfl, hx12⟩
        replace c0_0_0 := hx12.cell c0_0_0
        replace c0_0_1 := hx12.cell c0_0_1
        replace c0_1_0 := hx12.cell c0_1_0
        replace c0_1_1 := hx12.cell c0_1_1
        replace c8_0_0 := hx12.cell c8_0_0
        replace c8_0_1 := hx12.cell c8_0_1
        replace c9_0_0 := hx12.cell c9_0_0
        replace c9_0_1 := hx12.cell c9_0_1
        replace c10_0_0 := hx12.cell c10_0_0
        replace c10_0_1 := hx12.cell c10_0_1
        replace s1 := hid (s1.out.ext hx12)
        replace t1 := hid (t1.out.ext hx12)
        replace s2 := hid (s2.out.ext hx12)
        replace t2 := hid (t2.out.ext hx12)
        replace s3 := hid (s3.out.ext hx12)
        replace s4 := hid (s4.out.ext hx12)
        replace R1 := hid (R1.out.ext hx12)
        replace R2 := hid (R2.out.ext hx12)
        replace R3 := hid (R3.out.ext hx12)
        replace Sa := hid (Sa.out.ext hx12)
        replace Ta := hid (Ta.out.ext hx12)
        replace So := hid (So.out.ext hx12)
        replace To := hid (To.out.ext hx12)
        replace Sn := hid (Sn.out.ext hx12)
        replace Tn := hid (Tn.out.ext hx12)
        replace hE := hid (Ext.trans hE.out hx12)
        clear lt_1
        have lt_1 : g < w12.heap.size := World.block_lt_of_cell? w12 _ c0_0_0
        clear lt_2
        have lt_2 : h < w12.heap.size := World.block_lt_of_cell? w12 _ c0_1_0
        clear lt_3
        have lt_3 : w8.heap.size < w12.heap.size := World.block_lt_of_cell? w12 _ c8_0_0
        clear lt_4
        have lt_4 : w9.heap.size < w12.heap.size := World.block_lt_of_cell? w12 _ c9_0_0
        clear lt_5
        have lt_5 : w10.heap.size < w12.heap.size := World.block_lt_of_cell? w12 _ c10_0_0
        clear hx12
        have tt1 := T2.out
        have zn : xn ≤ 3000 ∧ yn ≤ 3000 := by have h1 := Sn.out.len; have h2 := Tn.out.len; have h3 := isA_len T3.out; omega
        go_wp2_with fail
        refine (True_any _ _ _ _ _ _ _ _ _ _ _ _ _ Sn.out Tn.out R3.out zn.1 zn.2 (by omega)).mono ?_
        rintro e w13 ⟨rfl, hx13⟩
        replace c0_0_0 := hx13.cell c0_0_0
        replace c0_0_1 := hx13.cell c0_0_1
        replace c0_1_0 := hx13.cell c0_1_0
        replace c0_1_1 := hx13.cell c0_1_1
        replace c8_0_0 := hx13.cell c8_0_0
        replace c8_0_1 := hx13.cell c8_0_1
        replace c9_0_0 := hx13.cell c9_0_0
        replace c9_0_1 := hx13.cell c9_0_1
        replace c10_0_0 := hx13.cell c10_0_0
        replace c10_0_1 := hx13.cell c10_0_1
        replace s1 := hid (s1.out.ext hx13)
        replace t1 := hid (t1.out.ext hx13)
        replace s2 := hid (s2.out.ext hx13)
        replace t2 := hid (t2.out.ext hx13)
        replace s3 := hid (s3.out.ext hx13)
        replace s4 := hid (s4.out.ext hx13)
        replace R1 := hid (R1.out.ext hx13)
        replace R2 := hid (R2.out.ext hx13)
        replace R3 := hid (R3.out.ext hx13)
        replace Sa := hid (Sa.out.ext hx13)
        replace Ta := hid (Ta.out.ext hx13)
        replace So := hid (So.out.ext hx13)
        replace To := hid (To.out.ext hx13)
        replace Sn := hid (Sn.out.ext hx13)
        replace Tn := hid (Tn.out.ext hx13)
        replace hE := hid (Ext.trans hE.out hx13)
        clear lt_1
        have lt_1 : g < w13.heap.size := World.block_lt_of_cell? w13 _ c0_0_0
        clear lt_2
        have lt_2 : h < w13.heap.size := World.block_lt_of_cell? w13 _ c0_1_0
        clear lt_3
        have lt_3 : w8.heap.size < w13.heap.size := World.block_lt_of_cell? w13 _ c8_0_0
        clear lt_4
        have lt_4 : w9.heap.size < w13.heap.size := World.block_lt_of_cell? w13 _ c9_0_0
        clear lt_5
        have lt_5 : w10.heap.size < w13.heap.size := World.block_lt_of_cell? w13 _ c10_0_0
        clear hx13
        have tt2 := T3.out
        go_wp2_with fail
        refine (known_any _).mono ?_
        rintro e w14 ⟨rfl, hx14⟩
        replace c0_0_0 := hx14.cell c0_0_0
        replace c0_0_1 := hx14.cell c0_0_1
        replace c0_1_0 := hx14.cell c0_1_0
        replace c0_1_1 := hx14.cell c0_1_1
        replace c8_0_0 := hx14.cell c8_0_0
        replace c8_0_1 := hx14.cell c8_0_1
        replace c9_0_0 := hx14.cell c9_0_0
        replace c9_0_1 := hx14.cell c9_0_1
        replace c10_0_0 := hx14.cell c10_0_0
        replace c10_0_1 := hx14.cell c10_0_1
        replace s1 := hid (s1.out.ext hx14)
        replace t1 := hid (t1.out.ext hx14)
        replace s2 := hid (s2.out.ext hx14)
        replace t2 := hid (t2.out.ext hx14)
        replace s3 := hid (s3.out.ext hx14)
        replace s4 := hid (s4.out.ext hx14)
        replace R1 := hid (R1.out.ext hx14)
        replace R2 := hid (R2.out.ext hx14)
        replace R3 := hid (R3.out.ext hx14)
        replace Sa := hid (Sa.out.ext hx14)
        replace Ta := hid (Ta.out.ext hx14)
        replace So := hid (So.out.ext hx14)
        replace To := hid (To.out.ext hx14)
        replace Sn := hid (Sn.out.ext hx14)
        replace Tn := hid (Tn.out.ext hx14)
        replace hE := hid (Ext.trans hE.out hx14)
        clear lt_1
        have lt_1 : g < w14.heap.size := World.block_lt_of_cell? w14 _ c0_0_0
        clear lt_2
        have lt_2 : h < w14.heap.size := World.block_lt_of_cell? w14 _ c0_1_0
        clear lt_3
        have lt_3 : w8.heap.size < w14.heap.size := World.block_lt_of_cell? w14 _ c8_0_0
        clear lt_4
        have lt_4 : w9.heap.size < w14.heap.size := World.block_lt_of_cell? w14 _ c9_0_0
        clear lt_5
        have lt_5 : w10.heap.size < w14.heap.size := World.block_lt_of_cell? w14 _ c10_0_0
        clear hx14
        go_wp2
        go_ret
        exact ⟨rfl, hE.out⟩
end Go.Proofs.Ytffcaoicokookaa
