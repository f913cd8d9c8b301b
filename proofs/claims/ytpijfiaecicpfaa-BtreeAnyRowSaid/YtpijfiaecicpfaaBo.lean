/-
  Entries of an index, plainly: their order, and lists in ascending order. No program in sight.
-/
import Derived.Test.YtpijfiaecicpfaaBase
import Derived.Lib.Bytealg
namespace Go.Proofs.Ytpijfiaecicpfaa
set_option linter.unusedVariables false
set_option linter.unusedSimpArgs false
theorem u8_lt {a b : UInt8} : a < b ↔ a.toNat < b.toNat := UInt8.lt_iff_toNat_lt
theorem less_cmp : ∀ a b : List UInt8, Op.bytesLess a b = decide (Lib.compareBytes a b < 0)
  | [], [] => rfl
  | _ :: _, [] => rfl
  | [], _ :: _ => rfl
  | a :: x, b :: y => by
    unfold Op.bytesLess Lib.compareBytes
    rw [less_cmp x y]
    by_cases h : a < b
    · simp [h]
    · by_cases h2 : b < a
      · have hne : ¬ a = b := by intro e; subst e; exact absurd h2 h
        simp [h, h2, hne]
      · have he : a = b := UInt8.toNat_inj.1 (by rw [u8_lt] at h h2; omega)
        subst he
        simp [h]
theorem cmp_refl : ∀ a : List UInt8, Lib.compareBytes a a = 0
  | [] => rfl
  | a :: x => by unfold Lib.compareBytes; rw [if_neg (by rw [u8_lt]; omega), if_neg (by rw [u8_lt]; omega), cmp_refl x]
theorem cmp_same (a : UInt8) (x y : List UInt8) : Lib.compareBytes (a :: x) (a :: y) = Lib.compareBytes x y := by
  rw [Lib.compareBytes, if_neg (by rw [u8_lt]; omega), if_neg (by rw [u8_lt]; omega)]
theorem cmp_lt {a b : UInt8} (h : a.toNat < b.toNat) (x y : List UInt8) : Lib.compareBytes (a :: x) (b :: y) = -1 := by unfold Lib.compareBytes; rw [if_pos (u8_lt.2 h)]
theorem cmp_gt {a b : UInt8} (h : b.toNat < a.toNat) (x y : List UInt8) : Lib.compareBytes (a :: x) (b :: y) = 1 := by unfold Lib.compareBytes; rw [if_neg (by rw [u8_lt]; omega), if_pos (u8_lt.2 h)]
theorem cmp_rng : ∀ a b : List UInt8, -1 ≤ Lib.compareBytes a b ∧ Lib.compareBytes a b ≤ 1
  | [], [] => by decide
  | [], _ :: _ => by simp [Lib.compareBytes]
  | _ :: _, [] => by simp [Lib.compareBytes]
  | a :: x, b :: y => by
    have := cmp_rng x y
    unfold Lib.compareBytes
    split
    · omega
    · split
      · omega
      · exact this
theorem cmp_anti : ∀ a b : List UInt8, Lib.compareBytes a b = - Lib.compareBytes b a
  | [], [] => rfl
  | [], _ :: _ => rfl
  | _ :: _, [] => rfl
  | a :: x, b :: y => by
    have ih := cmp_anti x y
    by_cases h1 : a.toNat < b.toNat
    · rw [cmp_lt h1, cmp_gt h1]
    · by_cases h2 : b.toNat < a.toNat
      · rw [cmp_gt h2, cmp_lt h2]
        decide
      · obtain rfl : a = b := UInt8.toNat_inj.1 (by omega)
        rw [cmp_same, cmp_same]
        exact ih
theorem cmp_zero : ∀ {a b : List UInt8}, Lib.compareBytes a b = 0 → a = b
  | [], [], _ => rfl
  | [], _ :: _, h => by simp [Lib.compareBytes] at h
  | _ :: _, [], h => by simp [Lib.compareBytes] at h
  | a :: x, b :: y, h => by
    by_cases h1 : a.toNat < b.toNat
    · rw [cmp_lt h1] at h; cases h
    · by_cases h2 : b.toNat < a.toNat
      · rw [cmp_gt h2] at h; cases h
      · obtain rfl : a = b := UInt8.toNat_inj.1 (by omega)
        rw [cmp_same] at h
        rw [cmp_zero h]
theorem cmp_trans : ∀ {a b c : List UInt8}, Lib.compareBytes a b < 0 → Lib.compareBytes b c < 0 → Lib.compareBytes a c < 0
  | _, [], [], _, h => absurd h (by decide)
  | [], [], _ :: _, h, _ => absurd h (by decide)
  | _ :: _, [], _, h, _ => by simp [Lib.compareBytes] at h
  | _, _ :: _, [], _, h => by simp [Lib.compareBytes] at h
  | [], _ :: _, _ :: _, _, _ => by simp [Lib.compareBytes]
  | a :: x, b :: y, c :: z, h1, h2 => by
    by_cases q1 : a.toNat < b.toNat
    · by_cases q2 : c.toNat < b.toNat
      · rw [cmp_gt q2] at h2; exact absurd h2 (by decide)
      · rw [cmp_lt (by omega)]; decide
    · by_cases q3 : b.toNat < a.toNat
      · rw [cmp_gt q3] at h1; exact absurd h1 (by decide)
      · obtain rfl : a = b := UInt8.toNat_inj.1 (by omega)
        rw [cmp_same] at h1
        by_cases q2 : c.toNat < a.toNat
        · rw [cmp_gt q2] at h2; exact absurd h2 (by decide)
        · by_cases q4 : a.toNat < c.toNat
          · rw [cmp_lt q4]; decide
          · obtain rfl : a = c := UInt8.toNat_inj.1 (by omega)
            rw [cmp_same] at h2 ⊢
            exact cmp_trans h1 h2
theorem str_ext {a b : ByteArray} (h : a.data.toList = b.data.toList) : a = b := by
  obtain ⟨⟨a⟩⟩ := a
  obtain ⟨⟨b⟩⟩ := b
  simp at h
  rw [h]
/-- An entry: a key, and the number of a record. -/
structure Te where
  key : ByteArray
  no : Int
def cmpN (a b : Int) : Int := if a < b then -1 else if b < a then 1 else 0
def cmpK (a b : ByteArray) : Int := Lib.compareBytes a.data.toList b.data.toList
/-- How two entries compare. -/
def cmpT (a b : Te) : Int := if cmpK a.key b.key = 0 then cmpN a.no b.no else cmpK a.key b.key
theorem cmpN_anti (a b : Int) : cmpN a b = - cmpN b a := by unfold cmpN; split <;> split <;> (try split) <;> omega
theorem cmpN_rng (a b : Int) : -1 ≤ cmpN a b ∧ cmpN a b ≤ 1 := by unfold cmpN; split <;> (try split) <;> omega
theorem cmpN_lt {a b : Int} : cmpN a b < 0 ↔ a < b := by unfold cmpN; split <;> (try split) <;> omega
theorem cmpN_zero {a b : Int} : cmpN a b = 0 ↔ a = b := by unfold cmpN; split <;> (try split) <;> omega
theorem cmpK_refl (a : ByteArray) : cmpK a a = 0 := cmp_refl _
theorem cmpK_zero {a b : ByteArray} : cmpK a b = 0 ↔ a = b := ⟨fun h => str_ext (cmp_zero h), fun h => h ▸ cmpK_refl a⟩
theorem cmpK_anti (a b : ByteArray) : cmpK a b = - cmpK b a := cmp_anti _ _
theorem cmpT_refl (a : Te) : cmpT a a = 0 := by unfold cmpT; rw [if_pos (cmpK_refl _)]; exact cmpN_zero.2 rfl
theorem cmpT_anti (a b : Te) : cmpT a b = - cmpT b a := by
  unfold cmpT
  rw [cmpK_anti a.key b.key, cmpN_anti a.no b.no]
  by_cases h : cmpK b.key a.key = 0
  · rw [if_pos h, if_pos (by omega)]
  · rw [if_neg h, if_neg (by omega)]
theorem cmpT_zero {a b : Te} : cmpT a b = 0 ↔ a = b := by
  constructor
  · intro h
    unfold cmpT at h
    by_cases q : cmpK a.key b.key = 0
    · rw [if_pos q] at h
      obtain ⟨k, r⟩ := a
      obtain ⟨k', r'⟩ := b
      have e1 : k = k' := cmpK_zero.1 q
      have e2 : r = r' := cmpN_zero.1 h
      rw [e1, e2]
    · rw [if_neg q] at h; exact absurd h q
  · rintro rfl; exact cmpT_refl a
theorem cmpT_trans {a b c : Te} (h1 : cmpT a b < 0) (h2 : cmpT b c < 0) : cmpT a c < 0 := by
  unfold cmpT at *
  by_cases q1 : cmpK a.key b.key = 0
  · rw [if_pos q1] at h1
    rw [cmpK_zero.1 q1]
    by_cases q2 : cmpK b.key c.key = 0
    · rw [if_pos q2] at h2 ⊢
      rw [cmpN_lt] at *
      omega
    · rw [if_neg q2] at h2 ⊢; exact h2
  · rw [if_neg q1] at h1
    by_cases q2 : cmpK b.key c.key = 0
    · rw [← cmpK_zero.1 q2, if_neg q1]; exact h1
    · rw [if_neg q2] at h2
      have h3 : cmpK a.key c.key < 0 := cmp_trans h1 h2
      rw [if_neg (by omega)]
      exact h3
/-- In ascending order. -/
def Srt (l : List Te) : Prop := l.Pairwise (fun a b => cmpT a b < 0)
theorem srt_app {a b : List Te} : Srt (a ++ b) ↔ Srt a ∧ Srt b ∧ ∀ x ∈ a, ∀ y ∈ b, cmpT x y < 0 := List.pairwise_append
theorem srt_cons {a : Te} {b : List Te} : Srt (a :: b) ↔ (∀ y ∈ b, cmpT a y < 0) ∧ Srt b := List.pairwise_cons
/-- An entry is put in at its place. -/
def insT : List Te → Te → List Te
  | [], e => [e]
  | x :: l, e => if cmpT x e < 0 then x :: insT l e else e :: x :: l
/-- An entry is taken out. -/
def delT : List Te → Te → List Te
  | [], _ => []
  | x :: l, e => if cmpT x e = 0 then l else x :: delT l e
/-- How many are less. -/
def rankT (l : List Te) (e : Te) : Nat := l.countP (fun x => decide (cmpT x e < 0))
theorem insT_app {a b : List Te} {e : Te} (h : ∀ x ∈ a, cmpT x e < 0) : insT (a ++ b) e = a ++ insT b e := by
  induction a with
  | nil => rfl
  | cons x a ih =>
    rw [List.cons_append, insT, if_pos (h x (by simp)), ih (fun y hy => h y (List.mem_cons_of_mem _ hy))]
    rfl
theorem insT_app2 {a b : List Te} {e : Te} (h : ∀ x ∈ b, cmpT e x < 0) : insT (a ++ b) e = insT a e ++ b := by
  induction a with
  | nil =>
    cases b with
    | nil => rfl
    | cons y b =>
      have := h y (by simp)
      show insT (y :: b) e = e :: y :: b
      rw [insT, if_neg (by rw [cmpT_anti]; omega)]
  | cons x a ih =>
    rw [List.cons_append, insT, insT, ih]
    by_cases q : cmpT x e < 0
    · rw [if_pos q, if_pos q]; rfl
    · rw [if_neg q, if_neg q]; rfl
theorem delT_app {a b : List Te} {e : Te} (h : ∀ x ∈ a, cmpT x e ≠ 0) : delT (a ++ b) e = a ++ delT b e := by
  induction a with
  | nil => rfl
  | cons x a ih =>
    rw [List.cons_append, delT, if_neg (h x (by simp)), ih (fun y hy => h y (List.mem_cons_of_mem _ hy))]
    rfl
theorem delT_app2 {a b : List Te} {e : Te} (h : e ∈ a) : delT (a ++ b) e = delT a e ++ b := by
  induction a with
  | nil => cases h
  | cons x a ih =>
    rw [List.cons_append, delT, delT]
    by_cases q : cmpT x e = 0
    · rw [if_pos q, if_pos q]
    · rw [if_neg q, if_neg q, ih (by
        rcases List.mem_cons.1 h with rfl | h
        · exact absurd (cmpT_refl _) q
        · exact h)]
      rfl
theorem mem_ins {l : List Te} {e x : Te} : x ∈ insT l e ↔ x = e ∨ x ∈ l := by
  induction l with
  | nil => simp [insT]
  | cons y l ih =>
    unfold insT
    split
    · rw [List.mem_cons, ih, List.mem_cons]
      constructor
      · rintro (h | h | h)
        · exact .inr (.inl h)
        · exact .inl h
        · exact .inr (.inr h)
      · rintro (h | h | h)
        · exact .inr (.inl h)
        · exact .inl h
        · exact .inr (.inr h)
    · rw [List.mem_cons]
theorem srt_ins {l : List Te} {e : Te} (h : Srt l) (hn : e ∉ l) : Srt (insT l e) := by
  induction l with
  | nil => exact List.pairwise_singleton _ _
  | cons y l ih =>
    obtain ⟨h1, h2⟩ := srt_cons.1 h
    unfold insT
    by_cases q : cmpT y e < 0
    · rw [if_pos q]
      refine srt_cons.2 ⟨fun x hx => ?_, ih h2 (fun hm => hn (List.mem_cons_of_mem _ hm))⟩
      rcases mem_ins.1 hx with rfl | hx
      · exact q
      · exact h1 x hx
    · rw [if_neg q]
      have hne : cmpT y e ≠ 0 := fun e0 => hn (by rw [cmpT_zero.1 e0]; simp)
      have hey : cmpT e y < 0 := by rw [cmpT_anti]; omega
      refine srt_cons.2 ⟨fun x hx => ?_, h⟩
      rcases List.mem_cons.1 hx with rfl | hx
      · exact hey
      · exact cmpT_trans hey (h1 x hx)
theorem del_sub {l : List Te} {e x : Te} (h : x ∈ delT l e) : x ∈ l := by
  induction l with
  | nil => cases h
  | cons y l ih =>
    unfold delT at h
    split at h
    · exact List.mem_cons_of_mem _ h
    · rcases List.mem_cons.1 h with rfl | h
      · simp
      · exact List.mem_cons_of_mem _ (ih h)
theorem srt_del {l : List Te} {e : Te} (h : Srt l) : Srt (delT l e) := by
  induction l with
  | nil => exact List.Pairwise.nil
  | cons y l ih =>
    obtain ⟨h1, h2⟩ := srt_cons.1 h
    unfold delT
    split
    · exact h2
    · exact srt_cons.2 ⟨fun x hx => h1 x (del_sub hx), ih h2⟩
theorem len_ins (l : List Te) (e : Te) : (insT l e).length = l.length + 1 := by
  induction l with
  | nil => rfl
  | cons y l ih => unfold insT; split <;> simp [ih]
theorem len_del {l : List Te} {e : Te} (h : e ∈ l) : (delT l e).length + 1 = l.length := by
  induction l with
  | nil => cases h
  | cons y l ih =>
    unfold delT
    by_cases q : cmpT y e = 0
    · rw [if_pos q]; simp
    · rw [if_neg q]
      have := ih (by
        rcases List.mem_cons.1 h with rfl | h
        · exact absurd (cmpT_refl _) q
        · exact h)
      simp only [List.length_cons]
      omega
/-- Where the rank cuts a list in order. -/
theorem rank_cut {l : List Te} (h : Srt l) (e : Te) : rankT l e ≤ l.length ∧ (∀ x ∈ l.take (rankT l e), cmpT x e < 0) ∧ (∀ x ∈ l.drop (rankT l e), ¬ cmpT x e < 0) := by
  induction l with
  | nil => exact ⟨Nat.le_refl _, fun x hx => (by cases hx), fun x hx => (by cases hx)⟩
  | cons y l ih =>
    obtain ⟨h1, h2⟩ := srt_cons.1 h
    obtain ⟨i1, i2, i3⟩ := ih h2
    by_cases q : cmpT y e < 0
    · have hr : rankT (y :: l) e = rankT l e + 1 := by unfold rankT; rw [List.countP_cons_of_pos (by simpa using q)]
      rw [hr]
      refine ⟨by simp; omega, fun x hx => ?_, fun x hx => i3 x (by simpa using hx)⟩
      rw [List.take_succ_cons] at hx
      rcases List.mem_cons.1 hx with rfl | hx
      · exact q
      · exact i2 x hx
    · have h0 : ∀ x ∈ l, ¬ cmpT x e < 0 := fun x hx hc => q (cmpT_trans (h1 x hx) hc)
      have hr : rankT (y :: l) e = 0 := by
        unfold rankT
        rw [List.countP_eq_zero]
        intro x hx
        rcases List.mem_cons.1 hx with rfl | hx
        · simpa using q
        · simpa using h0 x hx
      rw [hr]
      refine ⟨Nat.zero_le _, fun x hx => (by cases hx), fun x hx => ?_⟩
      rw [List.drop_zero] at hx
      rcases List.mem_cons.1 hx with rfl | hx
      · exact q
      · exact h0 x hx
theorem ins_cut {l : List Te} (h : Srt l) (e : Te) : insT l e = l.take (rankT l e) ++ e :: l.drop (rankT l e) := by
  obtain ⟨h1, h2, h3⟩ := rank_cut h e
  conv => lhs; rw [← List.take_append_drop (rankT l e) l]
  rw [insT_app h2]
  congr 1
  cases hd : l.drop (rankT l e) with
  | nil => rfl
  | cons y t =>
    rw [hd] at h3
    rw [insT, if_neg (h3 y (by simp))]
end Go.Proofs.Ytpijfiaecicpfaa
