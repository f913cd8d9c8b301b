/-
  Plain facts on texts: the capitals of small letters, the order of weights. No walk.
-/
import Derived.Test.YtlhnabkfacmmnaaPg14
import Derived.Test.YtlhnabkfacmmnaaPg15
import Derived.Test.YtlhnabkfacmmnaaPg16
namespace Go.Proofs.Ytlhnabkfacmmnaa
open Go.RowKit
set_option linter.unusedVariables false
set_option linter.unusedSimpArgs false
theorem all_bytes {P : Int → Int → Prop} (h : ∀ p : Fin 3, ∀ x : Fin 256, P (x.val : Int) (p.val : Int)) {x p : Int} (hp : Pg p) (h0 : 0 ≤ x) (h255 : x ≤ 255) : P x p := by
  obtain ⟨X, rfl⟩ := Int.eq_ofNat_of_zero_le h0
  have hX : X < 256 := by omega
  rcases hp with rfl | rfl | rfl
  · exact h 0 ⟨X, hX⟩
  · exact h 1 ⟨X, hX⟩
  · exact h 2 ⟨X, hX⟩
theorem up_low {x p : Int} (hp : Pg p) (h0 : 0 ≤ x) (h255 : x ≤ 255) : upS_ (lowS x p) p = upS_ x p :=
  all_bytes (P := fun x p => upS_ (lowS x p) p = upS_ x p) (by decide +kernel) hp h0 h255
theorem low_up {x p : Int} (hp : Pg p) (h0 : 0 ≤ x) (h255 : x ≤ 255) : lowS (upS_ x p) p = lowS x p :=
  all_bytes (P := fun x p => lowS (upS_ x p) p = lowS x p) (by decide +kernel) hp h0 h255
theorem up_up {x p : Int} (hp : Pg p) (h0 : 0 ≤ x) (h255 : x ≤ 255) : upS_ (upS_ x p) p = upS_ x p :=
  all_bytes (P := fun x p => upS_ (upS_ x p) p = upS_ x p) (by decide +kernel) hp h0 h255
theorem low_low {x p : Int} (hp : Pg p) (h0 : 0 ≤ x) (h255 : x ≤ 255) : lowS (lowS x p) p = lowS x p :=
  all_bytes (P := fun x p => lowS (lowS x p) p = lowS x p) (by decide +kernel) hp h0 h255
theorem let_up {x p : Int} (hp : Pg p) (h0 : 0 ≤ x) (h255 : x ≤ 255) : isLetS (upS_ x p) p = isLetS x p :=
  all_bytes (P := fun x p => isLetS (upS_ x p) p = isLetS x p) (by decide +kernel) hp h0 h255
theorem let_low {x p : Int} (hp : Pg p) (h0 : 0 ≤ x) (h255 : x ≤ 255) : isLetS (lowS x p) p = isLetS x p :=
  all_bytes (P := fun x p => isLetS (lowS x p) p = isLetS x p) (by decide +kernel) hp h0 h255
theorem bytes_in (b : UInt8) : 0 ≤ (b.toNat : Int) ∧ (b.toNat : Int) ≤ 255 := by have := b.toNat_lt; omega
theorem mapS_toList (f : Int → Int) (s : ByteArray) : (mapS f s).toList = s.toList.map fun b => bOf (f (b.toNat : Int)) := by unfold mapS; rw [strB_toList]
theorem mapS_comp {f g h : Int → Int} (s : ByteArray) (hg : ∀ x, 0 ≤ x → x ≤ 255 → 0 ≤ g x ∧ g x ≤ 255) (he : ∀ x, 0 ≤ x → x ≤ 255 → f (g x) = h x) : mapS f (mapS g s) = mapS h s := by
  show strB _ = strB _
  rw [mapS_toList, List.map_map]
  congr 1
  apply List.map_congr_left
  intro b _
  have hb := bytes_in b
  have hr := hg _ hb.1 hb.2
  show bOf (f ((bOf (g (b.toNat : Int))).toNat : Int)) = _
  rw [bOf_val _ hr.1 hr.2, he _ hb.1 hb.2]
theorem mapS_size (f : Int → Int) (s : ByteArray) : (mapS f s).size = s.size := by
  unfold mapS
  rw [strB_size, List.length_map, ByteArray.toList_eq]
  rfl
theorem bth_map (f : Int → Int) (l : List UInt8) (k : Nat) (hk : k < l.length) (hf : ∀ x, 0 ≤ x → x ≤ 255 → 0 ≤ f x ∧ f x ≤ 255) : bth (l.map fun b => bOf (f (b.toNat : Int))) k = f (bth l k) := by
  have hb := bytes_in (l[k])
  have hr := hf _ hb.1 hb.2
  simp [bth, List.getD, hk, bOf_val _ hr.1 hr.2]
theorem prop_same (s : ByteArray) {p : Int} (hp : Pg p) : propB (mapS (fun x => upS_ x p) s) p = propB (mapS (fun x => lowS x p) s) p := by
  unfold propB
  rw [mapS_toList, mapS_toList, List.length_map, List.length_map]
  congr 1
  apply List.map_congr_left
  intro k hk
  have hk := List.mem_range.1 hk
  have hu : ∀ x : Int, 0 ≤ x → x ≤ 255 → 0 ≤ upS_ x p ∧ upS_ x p ≤ 255 := fun x h0 h1 => upS_rng h0 h1
  have hl : ∀ x : Int, 0 ≤ x → x ≤ 255 → 0 ≤ lowS x p ∧ lowS x p ≤ 255 := fun x h0 h1 => lowS_rng h0 h1
  congr 1
  have hx := bth_in s.toList k
  have e1 := bth_map (fun x => upS_ x p) s.toList k hk hu
  have e2 := bth_map (fun x => lowS x p) s.toList k hk hl
  have hw : wasS (s.toList.map fun b => bOf (upS_ (b.toNat : Int) p)) p k = wasS (s.toList.map fun b => bOf (lowS (b.toNat : Int) p)) p k := by
    cases k with
    | zero => rfl
    | succ j =>
      have hy := bth_in s.toList j
      simp only [wasS]
      rw [bth_map (fun x => upS_ x p) s.toList j (by omega) hu, bth_map (fun x => lowS x p) s.toList j (by omega) hl, let_up hp hy.1 hy.2, let_low hp hy.1 hy.2]
  unfold prS
  rw [hw, e1, e2, up_low hp hx.1 hx.2, up_up hp hx.1 hx.2, low_up hp hx.1 hx.2, low_low hp hx.1 hx.2]
theorem cmp_flip : ∀ a b : List UInt8, Lib.compareBytes b a = - Lib.compareBytes a b
  | [], [] => by simp [Lib.compareBytes]
  | [], _ :: _ => by simp [Lib.compareBytes]
  | _ :: _, [] => by simp [Lib.compareBytes]
  | x :: a, y :: b => by
    have ih := cmp_flip a b
    unfold Lib.compareBytes
    by_cases h1 : x < y
    · have h2 : ¬ y < x := fun h => by have := UInt8.lt_iff_toNat_lt.1 h; have := UInt8.lt_iff_toNat_lt.1 h1; omega
      rw [if_pos h1, if_neg h2, if_pos h1]; decide
    · by_cases h2 : y < x
      · rw [if_pos h2, if_neg h1, if_pos h2]
      · rw [if_neg h2, if_neg h1, if_neg h1, if_neg h2]; exact ih
theorem cmp_trans : ∀ a b c : List UInt8, Lib.compareBytes a b ≤ 0 → Lib.compareBytes b c ≤ 0 → Lib.compareBytes a c ≤ 0
  | [], b, c, _, _ => by cases c <;> simp [Lib.compareBytes]
  | _ :: _, [], c, h, _ => by simp [Lib.compareBytes] at h
  | _ :: _, _ :: _, [], _, h => by simp [Lib.compareBytes] at h
  | x :: a, y :: b, z :: c, h1, h2 => by
    have ih := cmp_trans a b c
    unfold Lib.compareBytes at h1 h2 ⊢
    simp only [UInt8.lt_iff_toNat_lt] at h1 h2 ⊢
    by_cases a1 : x.toNat < y.toNat
    · by_cases a2 : y.toNat < z.toNat
      · rw [if_pos (by omega)]; decide
      · rw [if_neg a2] at h2
        by_cases a3 : z.toNat < y.toNat
        · rw [if_pos a3] at h2; simp at h2
        · rw [if_pos (by omega)]; decide
    · rw [if_neg a1] at h1
      by_cases a2 : y.toNat < x.toNat
      · rw [if_pos a2] at h1; simp at h1
      · rw [if_neg a2] at h1
        by_cases a3 : y.toNat < z.toNat
        · rw [if_pos (by omega)]; decide
        · rw [if_neg a3] at h2
          by_cases a4 : z.toNat < y.toNat
          · rw [if_pos a4] at h2; simp at h2
          · rw [if_neg a4] at h2
            rw [if_neg (by omega), if_neg (by omega)]
            exact ih h1 h2
theorem cmp_self : ∀ a : List UInt8, Lib.compareBytes a a = 0
  | [] => rfl
  | x :: a => by unfold Lib.compareBytes; rw [if_neg (UInt8.lt_irrefl x), if_neg (UInt8.lt_irrefl x)]; exact cmp_self a
theorem ord_flip (s t : ByteArray) (p c : Int) : ordS t s p c = - ordS s t p c := cmp_flip _ _
theorem ord_rng (s t : ByteArray) (p c : Int) : -1 ≤ ordS s t p c ∧ ordS s t p c ≤ 1 := cmp_rng _ _
theorem ord_trans (s t u : ByteArray) (p c : Int) (h1 : ordS s t p c ≤ 0) (h2 : ordS t u p c ≤ 0) : ordS s u p c ≤ 0 := cmp_trans _ _ _ h1 h2
theorem ord_ge (s t u : ByteArray) (p c : Int) (h1 : 0 ≤ ordS s t p c) (h2 : 0 ≤ ordS t u p c) : 0 ≤ ordS s u p c := by
  have := ord_trans u t s p c (by rw [ord_flip t u]; omega) (by rw [ord_flip s t]; omega)
  rw [ord_flip s u] at this
  omega
theorem weight_up {x p : Int} (hp : Pg p) (h0 : 0 ≤ x) (h255 : x ≤ 255) : weightS (upS_ x p) p 1 = weightS x p 1 := by
  unfold weightS
  rw [let_up hp h0 h255, up_up hp h0 h255]
  by_cases h : isLetS x p = true
  · simp [h]
  · have h' : isLetS x p = false := by simpa using h
    have hs : isSmallS x p = false := by unfold isLetS at h'; simp only [Bool.or_eq_false_iff] at h'; exact h'.1
    simp [h', not_small hs]
theorem ord_up (s : ByteArray) {p : Int} (hp : Pg p) : ordS s (mapS (fun x => upS_ x p) s) p 1 = 0 := by
  unfold ordS
  have e : wl (mapS (fun x => upS_ x p) s).toList p 1 = wl s.toList p 1 := by
    unfold wl
    rw [mapS_toList, List.map_map]
    apply List.map_congr_left
    intro b _
    have hb := bytes_in b
    have hr := upS_rng (p := p) hb.1 hb.2
    show bOf (weightS ((bOf (upS_ (b.toNat : Int) p)).toNat : Int) p 1) = _
    rw [bOf_val _ hr.1 hr.2, weight_up hp hb.1 hb.2]
  rw [e]
  exact cmp_self _
theorem askE_ok {p : Int} {s : ByteArray} (hs : s.size ≤ 2048) (h0 : 0 ≤ p) (h2 : p ≤ 2) : askE p [s] = 0 := by
  unfold askE
  have h : longTo [s] 1 = false := by simp [longTo]; omega
  have h' : pgB p = false := by simp [pgB]; omega
  rw [show [s].length = 1 from rfl, h, h']
  rfl
theorem askC_ok2 {p c : Int} {s t : ByteArray} (hs : s.size ≤ 2048) (ht : t.size ≤ 2048) (h0 : 0 ≤ p) (h2 : p ≤ 2) (c0 : 0 ≤ c) (c1 : c ≤ 1) : askC p c [s, t] = 0 := by
  have h : longTo [s, t] 2 = false := by simp [longTo]; omega
  have h' : pgB p = false := by simp [pgB]; omega
  have e : askE p [s, t] = 0 := by
    unfold askE
    rw [show [s, t].length = 2 from rfl, h, h']
    rfl
  unfold askC
  rw [if_pos e, if_neg (by omega)]
end Go.Proofs.Ytlhnabkfacmmnaa
