/-
  Acts of scripts in memory; Binary search among entries; place; Comparing two entries; Entries of an index, plainly: their order, and lists in ascending order. No program in sight; Nodes in memory; where an entry stands in a node; whether it is in a tree; The order of keys is what before says; Trees of entries, plainly: what is in them in order; putting an entry in. No program in sight; Whether a script is over.
-/
import Derived.Test.YtjjikkhhlpikbaaGreatDoorQ1
import Derived.Lib.Bytealg
import Derived.Test.YtjjikkhhlpikbaaGreatDoorQ2
import Derived.Lib.Strings
import Derived.Lib.Slices
import Derived.Lib.Walk
set_option maxRecDepth 100000
set_option maxHeartbeats 40000000
set_option linter.unusedVariables false
set_option linter.unusedSimpArgs false
namespace Go.Proofs.YtjjikkhhlpikbaaGreatDoor
theorem u8_lt {a b : UInt8} : a < b ↔ a.toNat < b.toNat := UInt8.lt_iff_toNat_lt
theorem less_cmp : ∀ a b : List UInt8, Op.bytesLess a b = decide (Lib.compareBytes a b < 0)
  | [], [] => rfl
  | _ :: _, [] => rfl
  | [], _ :: _ => rfl
  | a :: x, b :: y => by
    unfold Op.bytesLess Lib.compareBytes
    rw [less_cmp x y]
    by_cases h : a < b
    · simp [h]
    · by_cases h2 : b < a
      · have hne : ¬ a = b := by intro e; subst e; exact absurd h2 h
        simp [h, h2, hne]
      · have he : a = b := UInt8.toNat_inj.1 (by rw [u8_lt] at h h2; omega)
        subst he
        simp [h]
theorem cmp_refl : ∀ a : List UInt8, Lib.compareBytes a a = 0
  | [] => rfl
  | a :: x => by unfold Lib.compareBytes; rw [if_neg (by rw [u8_lt]; omega), if_neg (by rw [u8_lt]; omega), cmp_refl x]
theorem cmp_same (a : UInt8) (x y : List UInt8) : Lib.compareBytes (a :: x) (a :: y) = Lib.compareBytes x y := by
  rw [Lib.compareBytes, if_neg (by rw [u8_lt]; omega), if_neg (by rw [u8_lt]; omega)]
theorem cmp_lt {a b : UInt8} (h : a.toNat < b.toNat) (x y : List UInt8) : Lib.compareBytes (a :: x) (b :: y) = -1 := by unfold Lib.compareBytes; rw [if_pos (u8_lt.2 h)]
theorem cmp_gt {a b : UInt8} (h : b.toNat < a.toNat) (x y : List UInt8) : Lib.compareBytes (a :: x) (b :: y) = 1 := by unfold Lib.compareBytes; rw [if_neg (by rw [u8_lt]; omega), if_pos (u8_lt.2 h)]
theorem cmp_anti : ∀ a b : List UInt8, Lib.compareBytes a b = - Lib.compareBytes b a
  | [], [] => rfl
  | [], _ :: _ => rfl
  | _ :: _, [] => rfl
  | a :: x, b :: y => by
    have ih := cmp_anti x y
    by_cases h1 : a.toNat < b.toNat
    · rw [cmp_lt h1, cmp_gt h1]
    · by_cases h2 : b.toNat < a.toNat
      · rw [cmp_gt h2, cmp_lt h2]
        decide
      · obtain rfl : a = b := UInt8.toNat_inj.1 (by omega)
        rw [cmp_same, cmp_same]
        exact ih
theorem cmp_zero : ∀ {a b : List UInt8}, Lib.compareBytes a b = 0 → a = b
  | [], [], _ => rfl
  | [], _ :: _, h => by simp [Lib.compareBytes] at h
  | _ :: _, [], h => by simp [Lib.compareBytes] at h
  | a :: x, b :: y, h => by
    by_cases h1 : a.toNat < b.toNat
    · rw [cmp_lt h1] at h; cases h
    · by_cases h2 : b.toNat < a.toNat
      · rw [cmp_gt h2] at h; cases h
      · obtain rfl : a = b := UInt8.toNat_inj.1 (by omega)
        rw [cmp_same] at h
        rw [cmp_zero h]
theorem cmp_trans : ∀ {a b c : List UInt8}, Lib.compareBytes a b < 0 → Lib.compareBytes b c < 0 → Lib.compareBytes a c < 0
  | _, [], [], _, h => absurd h (by decide)
  | [], [], _ :: _, h, _ => absurd h (by decide)
  | _ :: _, [], _, h, _ => by simp [Lib.compareBytes] at h
  | _, _ :: _, [], _, h => by simp [Lib.compareBytes] at h
  | [], _ :: _, _ :: _, _, _ => by simp [Lib.compareBytes]
  | a :: x, b :: y, c :: z, h1, h2 => by
    by_cases q1 : a.toNat < b.toNat
    · by_cases q2 : c.toNat < b.toNat
      · rw [cmp_gt q2] at h2; exact absurd h2 (by decide)
      · rw [cmp_lt (by omega)]; decide
    · by_cases q3 : b.toNat < a.toNat
      · rw [cmp_gt q3] at h1; exact absurd h1 (by decide)
      · obtain rfl : a = b := UInt8.toNat_inj.1 (by omega)
        rw [cmp_same] at h1
        by_cases q2 : c.toNat < a.toNat
        · rw [cmp_gt q2] at h2; exact absurd h2 (by decide)
        · by_cases q4 : a.toNat < c.toNat
          · rw [cmp_lt q4]; decide
          · obtain rfl : a = c := UInt8.toNat_inj.1 (by omega)
            rw [cmp_same] at h2 ⊢
            exact cmp_trans h1 h2
theorem str_ext {a b : ByteArray} (h : a.data.toList = b.data.toList) : a = b := by
  obtain ⟨⟨a⟩⟩ := a
  obtain ⟨⟨b⟩⟩ := b
  simp at h
  rw [h]
structure Te where
  key : ByteArray
  no : Int
def cmpN (a b : Int) : Int := if a < b then -1 else if b < a then 1 else 0
def cmpK (a b : ByteArray) : Int := Lib.compareBytes a.data.toList b.data.toList
def cmpT (a b : Te) : Int := if cmpK a.key b.key = 0 then cmpN a.no b.no else cmpK a.key b.key
theorem cmpN_anti (a b : Int) : cmpN a b = - cmpN b a := by unfold cmpN; split <;> split <;> (try split) <;> omega
theorem cmpN_lt {a b : Int} : cmpN a b < 0 ↔ a < b := by unfold cmpN; split <;> (try split) <;> omega
theorem cmpN_zero {a b : Int} : cmpN a b = 0 ↔ a = b := by unfold cmpN; split <;> (try split) <;> omega
theorem cmpK_refl (a : ByteArray) : cmpK a a = 0 := cmp_refl _
theorem cmpK_zero {a b : ByteArray} : cmpK a b = 0 ↔ a = b := ⟨fun h => str_ext (cmp_zero h), fun h => h ▸ cmpK_refl a⟩
theorem cmpK_anti (a b : ByteArray) : cmpK a b = - cmpK b a := cmp_anti _ _
theorem cmpT_refl (a : Te) : cmpT a a = 0 := by unfold cmpT; rw [if_pos (cmpK_refl _)]; exact cmpN_zero.2 rfl
theorem cmpT_anti (a b : Te) : cmpT a b = - cmpT b a := by
  unfold cmpT
  rw [cmpK_anti a.key b.key, cmpN_anti a.no b.no]
  by_cases h : cmpK b.key a.key = 0
  · rw [if_pos h, if_pos (by omega)]
  · rw [if_neg h, if_neg (by omega)]
theorem cmpT_zero {a b : Te} : cmpT a b = 0 ↔ a = b := by
  constructor
  · intro h
    unfold cmpT at h
    by_cases q : cmpK a.key b.key = 0
    · rw [if_pos q] at h
      obtain ⟨k, r⟩ := a
      obtain ⟨k', r'⟩ := b
      have e1 : k = k' := cmpK_zero.1 q
      have e2 : r = r' := cmpN_zero.1 h
      rw [e1, e2]
    · rw [if_neg q] at h; exact absurd h q
  · rintro rfl; exact cmpT_refl a
theorem cmpT_trans {a b c : Te} (h1 : cmpT a b < 0) (h2 : cmpT b c < 0) : cmpT a c < 0 := by
  unfold cmpT at *
  by_cases q1 : cmpK a.key b.key = 0
  · rw [if_pos q1] at h1
    rw [cmpK_zero.1 q1]
    by_cases q2 : cmpK b.key c.key = 0
    · rw [if_pos q2] at h2 ⊢
      rw [cmpN_lt] at *
      omega
    · rw [if_neg q2] at h2 ⊢; exact h2
  · rw [if_neg q1] at h1
    by_cases q2 : cmpK b.key c.key = 0
    · rw [← cmpK_zero.1 q2, if_neg q1]; exact h1
    · rw [if_neg q2] at h2
      have h3 : cmpK a.key c.key < 0 := cmp_trans h1 h2
      rw [if_neg (by omega)]
      exact h3
def Srt (l : List Te) : Prop := l.Pairwise (fun a b => cmpT a b < 0)
theorem srt_app {a b : List Te} : Srt (a ++ b) ↔ Srt a ∧ Srt b ∧ ∀ x ∈ a, ∀ y ∈ b, cmpT x y < 0 := List.pairwise_append
theorem srt_cons {a : Te} {b : List Te} : Srt (a :: b) ↔ (∀ y ∈ b, cmpT a y < 0) ∧ Srt b := List.pairwise_cons
def insT : List Te → Te → List Te
  | [], e => [e]
  | x :: l, e => if cmpT x e < 0 then x :: insT l e else e :: x :: l
def delT : List Te → Te → List Te
  | [], _ => []
  | x :: l, e => if cmpT x e = 0 then l else x :: delT l e
def rankT (l : List Te) (e : Te) : Nat := l.countP (fun x => decide (cmpT x e < 0))
theorem insT_app {a b : List Te} {e : Te} (h : ∀ x ∈ a, cmpT x e < 0) : insT (a ++ b) e = a ++ insT b e := by
  induction a with
  | nil => rfl
  | cons x a ih =>
    rw [List.cons_append, insT, if_pos (h x (by simp)), ih (fun y hy => h y (List.mem_cons_of_mem _ hy))]
    rfl
theorem insT_app2 {a b : List Te} {e : Te} (h : ∀ x ∈ b, cmpT e x < 0) : insT (a ++ b) e = insT a e ++ b := by
  induction a with
  | nil =>
    cases b with
    | nil => rfl
    | cons y b =>
      have := h y (by simp)
      show insT (y :: b) e = e :: y :: b
      rw [insT, if_neg (by rw [cmpT_anti]; omega)]
  | cons x a ih =>
    rw [List.cons_append, insT, insT, ih]
    by_cases q : cmpT x e < 0
    · rw [if_pos q, if_pos q]; rfl
    · rw [if_neg q, if_neg q]; rfl
theorem delT_app {a b : List Te} {e : Te} (h : ∀ x ∈ a, cmpT x e ≠ 0) : delT (a ++ b) e = a ++ delT b e := by
  induction a with
  | nil => rfl
  | cons x a ih =>
    rw [List.cons_append, delT, if_neg (h x (by simp)), ih (fun y hy => h y (List.mem_cons_of_mem _ hy))]
    rfl
theorem delT_app2 {a b : List Te} {e : Te} (h : e ∈ a) : delT (a ++ b) e = delT a e ++ b := by
  induction a with
  | nil => cases h
  | cons x a ih =>
    rw [List.cons_append, delT, delT]
    by_cases q : cmpT x e = 0
    · rw [if_pos q, if_pos q]
    · rw [if_neg q, if_neg q, ih (by
        rcases List.mem_cons.1 h with rfl | h
        · exact absurd (cmpT_refl _) q
        · exact h)]
      rfl
theorem mem_ins {l : List Te} {e x : Te} : x ∈ insT l e ↔ x = e ∨ x ∈ l := by
  induction l with
  | nil => simp [insT]
  | cons y l ih =>
    unfold insT
    split
    · rw [List.mem_cons, ih, List.mem_cons]
      constructor
      · rintro (h | h | h)
        · exact .inr (.inl h)
        · exact .inl h
        · exact .inr (.inr h)
      · rintro (h | h | h)
        · exact .inr (.inl h)
        · exact .inl h
        · exact .inr (.inr h)
    · rw [List.mem_cons]
theorem srt_ins {l : List Te} {e : Te} (h : Srt l) (hn : e ∉ l) : Srt (insT l e) := by
  induction l with
  | nil => exact List.pairwise_singleton _ _
  | cons y l ih =>
    obtain ⟨h1, h2⟩ := srt_cons.1 h
    unfold insT
    by_cases q : cmpT y e < 0
    · rw [if_pos q]
      refine srt_cons.2 ⟨fun x hx => ?_, ih h2 (fun hm => hn (List.mem_cons_of_mem _ hm))⟩
      rcases mem_ins.1 hx with rfl | hx
      · exact q
      · exact h1 x hx
    · rw [if_neg q]
      have hne : cmpT y e ≠ 0 := fun e0 => hn (by rw [cmpT_zero.1 e0]; simp)
      have hey : cmpT e y < 0 := by rw [cmpT_anti]; omega
      refine srt_cons.2 ⟨fun x hx => ?_, h⟩
      rcases List.mem_cons.1 hx with rfl | hx
      · exact hey
      · exact cmpT_trans hey (h1 x hx)
theorem del_sub {l : List Te} {e x : Te} (h : x ∈ delT l e) : x ∈ l := by
  induction l with
  | nil => cases h
  | cons y l ih =>
    unfold delT at h
    split at h
    · exact List.mem_cons_of_mem _ h
    · rcases List.mem_cons.1 h with rfl | h
      · simp
      · exact List.mem_cons_of_mem _ (ih h)
theorem srt_del {l : List Te} {e : Te} (h : Srt l) : Srt (delT l e) := by
  induction l with
  | nil => exact List.Pairwise.nil
  | cons y l ih =>
    obtain ⟨h1, h2⟩ := srt_cons.1 h
    unfold delT
    split
    · exact h2
    · exact srt_cons.2 ⟨fun x hx => h1 x (del_sub hx), ih h2⟩
theorem len_ins (l : List Te) (e : Te) : (insT l e).length = l.length + 1 := by
  induction l with
  | nil => rfl
  | cons y l ih => unfold insT; split <;> simp [ih]
theorem len_del {l : List Te} {e : Te} (h : e ∈ l) : (delT l e).length + 1 = l.length := by
  induction l with
  | nil => cases h
  | cons y l ih =>
    unfold delT
    by_cases q : cmpT y e = 0
    · rw [if_pos q]; simp
    · rw [if_neg q]
      have := ih (by
        rcases List.mem_cons.1 h with rfl | h
        · exact absurd (cmpT_refl _) q
        · exact h)
      simp only [List.length_cons]
      omega
theorem rank_cut {l : List Te} (h : Srt l) (e : Te) : rankT l e ≤ l.length ∧ (∀ x ∈ l.take (rankT l e), cmpT x e < 0) ∧ (∀ x ∈ l.drop (rankT l e), ¬ cmpT x e < 0) := by
  induction l with
  | nil => exact ⟨Nat.le_refl _, fun x hx => (by cases hx), fun x hx => (by cases hx)⟩
  | cons y l ih =>
    obtain ⟨h1, h2⟩ := srt_cons.1 h
    obtain ⟨i1, i2, i3⟩ := ih h2
    by_cases q : cmpT y e < 0
    · have hr : rankT (y :: l) e = rankT l e + 1 := by unfold rankT; rw [List.countP_cons_of_pos (by simpa using q)]
      rw [hr]
      refine ⟨by simp; omega, fun x hx => ?_, fun x hx => i3 x (by simpa using hx)⟩
      rw [List.take_succ_cons] at hx
      rcases List.mem_cons.1 hx with rfl | hx
      · exact q
      · exact i2 x hx
    · have h0 : ∀ x ∈ l, ¬ cmpT x e < 0 := fun x hx hc => q (cmpT_trans (h1 x hx) hc)
      have hr : rankT (y :: l) e = 0 := by
        unfold rankT
        rw [List.countP_eq_zero]
        intro x hx
        rcases List.mem_cons.1 hx with rfl | hx
        · simpa using q
        · simpa using h0 x hx
      rw [hr]
      refine ⟨Nat.zero_le _, fun x hx => (by cases hx), fun x hx => ?_⟩
      rw [List.drop_zero] at hx
      rcases List.mem_cons.1 hx with rfl | hx
      · exact q
      · exact h0 x hx
theorem ins_cut {l : List Te} (h : Srt l) (e : Te) : insT l e = l.take (rankT l e) ++ e :: l.drop (rankT l e) := by
  obtain ⟨h1, h2, h3⟩ := rank_cut h e
  conv => lhs; rw [← List.take_append_drop (rankT l e) l]
  rw [insT_app h2]
  congr 1
  cases hd : l.drop (rankT l e) with
  | nil => rfl
  | cons y t =>
    rw [hd] at h3
    rw [insT, if_neg (h3 y (by simp))]
end Go.Proofs.YtjjikkhhlpikbaaGreatDoor
namespace Go.Proofs.YtjjikkhhlpikbaaGreatDoor.Ky
open Go.RowKit
theorem bef_eq {k n k' n' : Int} {s s' : ByteArray} {p c : Int} (hC : Co p c) (h : valE k n s = 0) (h' : valE k' n' s' = 0) (hs : s.size ≤ 48) (hs' : s'.size ≤ 48) : Lib.compareBytes (keyB k n s p c).toList (keyB k' n' s' p c).toList = befN k n s k' n' s' p c := by
  rw [keyB_list, keyB_list]
  unfold befN
  by_cases hk : k = k'
  · subst hk
    rw [if_pos rfl]
    by_cases h4 : k = 4
    · subst h4
      rw [if_pos rfl, (ord_text n n' s s' p c).1]
      unfold Pg.okI
      rw [if_pos (ask_pc hC hs hs'), show fst48 s = s from if_neg (by omega), show fst48 s' = s' from if_neg (by omega)]
    · rw [if_neg h4]
      by_cases h0 : k = 0
      · subst h0
        rw [if_pos rfl, (ord_nil h h' (.inl rfl)).1]
        rfl
      · rw [if_neg h0, (ord_num h h' h0 h4).1]
        unfold cmpO
        have hb : bothE k n s k n' s' = 0 := by unfold bothE; rw [if_neg (by omega)]; exact h'
        rw [if_neg (by omega), if_neg (by omega), if_neg h4]
  · rw [if_neg hk]
    obtain ⟨x, hx⟩ := kL_cons k n s p c
    obtain ⟨y, hy⟩ := kL_cons k' n' s' p c
    have r1 := val_in h
    have r2 := val_in h'
    rw [hx, hy]
    rcases (by omega : k = 0 ∨ k = 1 ∨ k = 2 ∨ k = 3 ∨ k = 4) with rfl | rfl | rfl | rfl | rfl <;> rcases (by omega : k' = 0 ∨ k' = 1 ∨ k' = 2 ∨ k' = 3 ∨ k' = 4) with rfl | rfl | rfl | rfl | rfl <;> first | exact absurd rfl hk | (rw [Lib.compareBytes]; first | (rw [if_pos (by decide)]; rfl) | (rw [if_neg (by decide), if_pos (by decide)]; rfl))
theorem befB_eq {k n k' n' r r' : Int} {s s' : ByteArray} {p c : Int} (hC : Co p c) (h : valE k n s = 0) (h' : valE k' n' s' = 0) (hs : s.size ≤ 48) (hs' : s'.size ≤ 48) : befB (befN k n s k' n' s' p c) r r' = decide (cmpT ⟨keyB k n s p c, r⟩ ⟨keyB k' n' s' p c, r'⟩ < 0) := by
  have e : cmpK (keyB k n s p c) (keyB k' n' s' p c) = befN k n s k' n' s' p c := by
    rw [← bef_eq hC h h' hs hs']
    unfold cmpK
    rw [ByteArray.toList_eq, ByteArray.toList_eq]
  unfold befB cmpT
  simp only [e]
  generalize befN k n s k' n' s' p c = N
  by_cases h0 : N = 0
  · subst h0
    rw [if_pos rfl]
    unfold cmpN
    by_cases h1 : r < r'
    · simp [h1]
    · by_cases h2 : r' < r
      · simp [h1, h2]
      · simp [h1, h2]
  · rw [if_neg h0]
    have : (N == 0) = false := by rw [beq_eq_false_iff_ne]; exact h0
    rw [this]
    simp
end Go.Proofs.YtjjikkhhlpikbaaGreatDoor.Ky
namespace Go.Proofs.YtjjikkhhlpikbaaGreatDoor
open Go.RowKit Go.Shelf
structure Ac where
  op : Int
  a : Int
  b : Int
  c : Int
  s : ByteArray
  t : ByteArray
def acells (x : Ac) : List Value := [.int .i64 x.op, .int .i64 x.a, .int .i64 x.b, .int .i64 x.c, .string x.s, .string x.t]
def acs : List Ac → List Value
  | [] => []
  | x :: l => acells x ++ acs l
theorem acs_len : ∀ l : List Ac, (acs l).length = l.length * 6
  | [] => rfl
  | x :: l => by rw [acs, List.length_append, acs_len l, List.length_cons]; simp [acells]; omega
theorem acs_at : ∀ (l : List Ac) (k : Nat) (h : k < l.length) (j : Nat), j < 6 → (acs l)[k * 6 + j]? = (acells l[k])[j]?
  | x :: l, 0, h, j, hj => by
    rw [acs, List.getElem?_append_left (by simp [acells]; omega)]
    simp
  | x :: l, k + 1, h, j, hj => by
    have := acs_at l k (by simpa using h) j hj
    rw [acs, List.getElem?_append_right (by simp [acells]; omega), List.getElem_cons_succ, ← this]
    congr 1
    simp [acells]
    omega
def okA (x : Ac) : Prop := x.s.size ≤ maxLen ∧ x.t.size ≤ maxLen
def RdA (w : World) (A : Option Addr) (n c : Nat) (l : List Ac) : Prop := Rd w 6 A n c (acs l) ∧ ∀ x ∈ l, okA x
theorem RdA.len {w : World} {A : Option Addr} {n c : Nat} {l : List Ac} (h : RdA w A n c l) : l.length = n := by have := h.1.1; rw [acs_len] at this; omega
theorem RdA.ext {w w' : World} {A : Option Addr} {n c : Nat} {l : List Ac} (h : RdA w A n c l) (hb : Ext w w') : RdA w' A n c l := ⟨Rd.ext h.1 hb, h.2⟩
def ath (l : List Ac) (k : Nat) : Ac := l.getD k ⟨0, 0, 0, 0, ⟨#[]⟩, ⟨#[]⟩⟩
theorem ath_get {l : List Ac} {k : Nat} (h : k < l.length) : ath l k = l[k] := by simp [ath, List.getD, h]
theorem RdA.at_ {w : World} {A : Option Addr} {n c : Nat} {l : List Ac} (h : RdA w A n c l) {k : Nat} (hk : k < n) : ∃ ad, A = some ad ∧ w.cell? (ad.add (k * 6)) = some (.int .i64 (ath l k).op) ∧ w.cell? ⟨(ad.add (k * 6)).block, (ad.add (k * 6)).off + 1, none⟩ = some (.int .i64 (ath l k).a) ∧ w.cell? ⟨(ad.add (k * 6)).block, (ad.add (k * 6)).off + 2, none⟩ = some (.int .i64 (ath l k).b) ∧
    w.cell? ⟨(ad.add (k * 6)).block, (ad.add (k * 6)).off + 4, none⟩ = some (.string (ath l k).s) ∧ w.cell? ⟨(ad.add (k * 6)).block, (ad.add (k * 6)).off + 5, none⟩ = some (.string (ath l k).t) ∧ okA (ath l k) := by
  have hl := h.len
  have hlt : k < l.length := by omega
  obtain ⟨ad, rfl, hc⟩ := h.1.2.2.2 (by omega)
  have hj : ∀ j v, j < 6 → (acells (ath l k))[j]? = some v → w.cell? (ad.add (k * 6 + j)) = some v := fun j v h6 hv => hc _ _ (by rw [acs_at l k hlt j h6, ← ath_get hlt]; exact hv)
  have hf : ∀ j v, j < 6 → 0 < j → (acells (ath l k))[j]? = some v → w.cell? ⟨(ad.add (k * 6)).block, (ad.add (k * 6)).off + j, none⟩ = some v := fun j v h6 h0 hv => cell_fk (hj j v h6 hv) h0
  refine ⟨ad, rfl, ?_, hf 1 _ (by decide) (by decide) rfl, hf 2 _ (by decide) (by decide) rfl, hf 4 _ (by decide) (by decide) rfl, hf 5 _ (by decide) (by decide) rfl, h.2 _ (by rw [ath_get hlt]; exact List.getElem_mem hlt)⟩
  exact hj 0 _ (by decide) rfl
open Go.RowKit Go.Shelf
inductive BT where
  | nd (l : List Te) (ks : List BT) : BT
instance : Inhabited BT := ⟨.nd [] []⟩
def BT.l : BT → List Te | .nd l _ => l
def BT.ks : BT → List BT | .nd _ ks => ks
def tlW : List Te → List (List Te) → List Te
  | [], _ => []
  | x :: l, [] => x :: l
  | x :: l, m :: ms => x :: (m ++ tlW l ms)
def wvp : List Te → List (List Te) → List Te
  | x :: l, m :: ms => m ++ x :: wvp l ms
  | _, _ => []
def wv (l : List Te) : List (List Te) → List Te
  | [] => l
  | m :: ms => m ++ tlW l ms
def flat : Nat → BT → List Te
  | 0, .nd l _ => l
  | h + 1, .nd l ks => wv l (ks.map (flat h))
theorem wv_app : ∀ {l1 l2 : List Te} {m1 : List (List Te)} {m : List Te} {m2 : List (List Te)}, l1.length = m1.length → wv (l1 ++ l2) (m1 ++ m :: m2) = wvp l1 m1 ++ (m ++ tlW l2 m2)
  | [], l2, [], m, m2, _ => rfl
  | [], l2, _ :: _, m, m2, h => by cases h
  | _ :: _, l2, [], m, m2, h => by cases h
  | x :: l1, l2, n :: m1, m, m2, h => by
    have ih := wv_app (l1 := l1) (l2 := l2) (m1 := m1) (m := m) (m2 := m2) (by simpa using h)
    have e : wv (x :: l1 ++ l2) (n :: m1 ++ m :: m2) = n ++ x :: wv (l1 ++ l2) (m1 ++ m :: m2) := by
      cases m1 <;> rfl
    rw [e, ih, wvp]
    simp
theorem flat_cut {h : Nat} {l1 l2 : List Te} {k1 : List BT} {K : BT} {k2 : List BT} (hl : l1.length = k1.length) : flat (h + 1) (.nd (l1 ++ l2) (k1 ++ K :: k2)) = wvp l1 (k1.map (flat h)) ++ (flat h K ++ tlW l2 (k2.map (flat h))) := by
  rw [flat, List.map_append, List.map_cons]
  exact wv_app (by simpa using hl)
theorem wvp_lt {e : Te} : ∀ {l : List Te} {ms : List (List Te)}, Srt (wvp l ms) → (∀ y ∈ l, cmpT y e < 0) → ∀ x ∈ wvp l ms, cmpT x e < 0
  | [], _, _, _, x, hx => by cases hx
  | _ :: _, [], _, _, x, hx => by cases hx
  | y :: l, m :: ms, hs, hl, x, hx => by
    rw [wvp] at hs hx
    obtain ⟨s1, s2, s3⟩ := srt_app.1 hs
    have hy := hl y (by simp)
    rcases List.mem_append.1 hx with h | h
    · exact cmpT_trans (s3 x h y (by simp)) hy
    · rcases List.mem_cons.1 h with rfl | h
      · exact hy
      · exact wvp_lt (srt_cons.1 s2).2 (fun z hz => hl z (List.mem_cons_of_mem _ hz)) x h
theorem tlW_gt {e : Te} {l : List Te} {ms : List (List Te)} (hs : Srt (tlW l ms)) (hl : ∀ y ∈ l, cmpT e y < 0) : ∀ x ∈ tlW l ms, cmpT e x < 0 := by
  intro x hx
  cases l with
  | nil => cases hx
  | cons y l =>
    have hy := hl y (by simp)
    have hh : ∃ t, tlW (y :: l) ms = y :: t := by cases ms <;> exact ⟨_, rfl⟩
    obtain ⟨t, ht⟩ := hh
    rw [ht] at hs hx
    rcases List.mem_cons.1 hx with rfl | h
    · exact hy
    · exact cmpT_trans hy ((srt_cons.1 hs).1 x h)
theorem tlW_sub {l : List Te} {ms : List (List Te)} : ∀ {y : Te}, y ∈ l → y ∈ tlW l ms := by
  induction l generalizing ms with
  | nil => intro y h; cases h
  | cons z l ih =>
    intro y h
    cases ms with
    | nil => exact h
    | cons m ms =>
      rw [tlW]
      rcases List.mem_cons.1 h with rfl | h
      · simp
      · exact List.mem_cons_of_mem _ (List.mem_append_right _ (ih h))
def memT (l : List Te) (e : Te) : Bool := l.any (fun x => cmpT x e == 0)
theorem memT_iff {l : List Te} {e : Te} : memT l e = true ↔ e ∈ l := by
  unfold memT
  rw [List.any_eq_true]
  constructor
  · rintro ⟨x, hx, h⟩
    rw [beq_iff_eq, cmpT_zero] at h
    exact h ▸ hx
  · intro h
    exact ⟨e, h, by rw [beq_iff_eq]; exact cmpT_refl e⟩
theorem memT_app (a b : List Te) (e : Te) : memT (a ++ b) e = (memT a e || memT b e) := List.any_append
theorem memT_lt {l : List Te} {e : Te} (h : ∀ x ∈ l, cmpT x e < 0) : memT l e = false := by
  cases q : memT l e with
  | false => rfl
  | true => have := h e (memT_iff.1 q); rw [cmpT_refl] at this; exact absurd this (by decide)
theorem memT_gt {l : List Te} {e : Te} (h : ∀ x ∈ l, cmpT e x < 0) : memT l e = false := by
  cases q : memT l e with
  | false => rfl
  | true => have := h e (memT_iff.1 q); rw [cmpT_refl] at this; exact absurd this (by decide)
theorem memT_false {l : List Te} {e : Te} : memT l e = false ↔ e ∉ l := by
  rw [← memT_iff]; simp
theorem list_cut {α : Type} {l : List α} {i : Nat} (hi : i < l.length) : l = l.take i ++ l[i] :: l.drop (i + 1) := by
  conv => lhs; rw [← List.take_append_drop i l]
  rw [List.drop_eq_getElem_cons hi]
def Shp : Nat → BT → Prop
  | 0, .nd _ ks => ks = []
  | h + 1, .nd l ks => ks.length = l.length + 1 ∧ ∀ k ∈ ks, 2 ≤ k.l.length ∧ k.l.length ≤ 4 ∧ Shp h k
theorem node_cut {h : Nat} {l : List Te} {ks : List BT} (hs : Shp (h + 1) (.nd l ks)) {i : Nat} (hi : i ≤ l.length) : ∃ K, ks[i]? = some K ∧ ks = ks.take i ++ K :: ks.drop (i + 1) ∧ (ks.take i).length = i ∧ (l.take i).length = i ∧ (ks.drop (i + 1)).length = (l.drop i).length := by
  have hk : i < ks.length := by rw [hs.1]; omega
  refine ⟨ks[i], List.getElem?_eq_getElem hk, list_cut hk, by rw [List.length_take]; omega, by rw [List.length_take]; omega, ?_⟩
  rw [List.length_drop, List.length_drop, hs.1]
  omega
theorem node_lt {h : Nat} {l : List Te} {ks : List BT} (hs : Shp (h + 1) (.nd l ks)) (hS : Srt (flat (h + 1) (.nd l ks))) (e : Te) : Srt l ∧ ∃ K, ks[rankT l e]? = some K ∧
    flat (h + 1) (.nd l ks) = wvp (l.take (rankT l e)) ((ks.take (rankT l e)).map (flat h)) ++ (flat h K ++ tlW (l.drop (rankT l e)) ((ks.drop (rankT l e + 1)).map (flat h))) ∧
    (∀ x ∈ wvp (l.take (rankT l e)) ((ks.take (rankT l e)).map (flat h)), cmpT x e < 0) ∧ (e ∉ l → ∀ x ∈ tlW (l.drop (rankT l e)) ((ks.drop (rankT l e + 1)).map (flat h)), cmpT e x < 0) ∧ Srt (flat h K) := by
  have hl : Srt l := by
    -- every entry of the node stands among all of them, in its order
    have key : ∀ (l : List Te) (ms : List (List Te)), Srt (tlW l ms) → Srt l := by
      intro l
      induction l with
      | nil => intro ms _; exact List.Pairwise.nil
      | cons y l ih =>
        intro ms h
        cases ms with
        | nil => exact h
        | cons m ms =>
          rw [tlW] at h
          obtain ⟨h1, h2⟩ := srt_cons.1 h
          obtain ⟨_, h3, _⟩ := srt_app.1 h2
          exact srt_cons.2 ⟨fun x hx => h1 x (List.mem_append_right _ (tlW_sub hx)), ih ms h3⟩
    obtain ⟨K, _, hk, _⟩ := node_cut hs (Nat.zero_le _)
    have := flat_cut (h := h) (l1 := []) (l2 := l) (k1 := []) (K := K) (k2 := ks.drop 1) rfl
    rw [show ks = [] ++ K :: ks.drop 1 from hk] at hS
    rw [show l = [] ++ l from rfl, this] at hS
    exact key l _ (srt_app.1 (srt_app.1 hS).2.1).2.1
  obtain ⟨r1, r2, r3⟩ := rank_cut hl e
  obtain ⟨K, hK, hk, h1, h2, h3⟩ := node_cut hs r1
  have hf := flat_cut (h := h) (l1 := l.take (rankT l e)) (l2 := l.drop (rankT l e)) (k1 := ks.take (rankT l e)) (K := K) (k2 := ks.drop (rankT l e + 1)) (by rw [h1, h2])
  rw [List.take_append_drop, ← hk] at hf
  rw [hf] at hS
  obtain ⟨s1, s2, s3⟩ := srt_app.1 hS
  obtain ⟨s4, s5, s6⟩ := srt_app.1 s2
  refine ⟨hl, K, hK, hf, wvp_lt s1 r2, fun hne => tlW_gt s5 (fun y hy => ?_), s4⟩
  have h4 := r3 y hy
  have h5 : cmpT y e ≠ 0 := fun e0 => hne (by rw [← cmpT_zero.1 e0]; exact List.mem_of_mem_drop hy)
  rw [cmpT_anti]
  omega
theorem mem_node {h : Nat} {l : List Te} {ks : List BT} (hs : Shp (h + 1) (.nd l ks)) (hS : Srt (flat (h + 1) (.nd l ks))) (e : Te) : ∃ K, ks[rankT l e]? = some K ∧ memT (flat (h + 1) (.nd l ks)) e = (memT l e || memT (flat h K) e) := by
  obtain ⟨hl, K, hK, hf, hA, hB, _⟩ := node_lt hs hS e
  refine ⟨K, hK, ?_⟩
  rw [hf, memT_app, memT_app, memT_lt hA, Bool.false_or]
  by_cases q : e ∈ l
  · rw [memT_iff.2 q, Bool.true_or]
    obtain ⟨r1, r2, r3⟩ := rank_cut hl e
    have hd : e ∈ l.drop (rankT l e) := by
      have h0 : e ∈ l.take (rankT l e) ++ l.drop (rankT l e) := by rw [List.take_append_drop]; exact q
      rcases List.mem_append.1 h0 with h1 | h1
      · have := r2 e h1; rw [cmpT_refl] at this; exact absurd this (by decide)
      · exact h1
    rw [memT_iff.2 (tlW_sub hd), Bool.or_true]
  · rw [memT_gt (hB q), memT_false.2 q, Bool.or_false, Bool.false_or]
def splitT (l : List Te) (ks : List BT) (i : Nat) (K : BT) : BT :=
  .nd (l.take i ++ K.l.getD (K.l.length / 2) ⟨⟨#[]⟩, 0⟩ :: l.drop i)
    (ks.take i ++ .nd (K.l.take (K.l.length / 2)) (K.ks.take (K.l.length / 2 + 1)) :: .nd (K.l.drop (K.l.length / 2 + 1)) (K.ks.drop (K.l.length / 2 + 1)) :: ks.drop (i + 1))
def putT : Nat → BT → Te → BT
  | 0, .nd l ks, e => .nd (insT l e) ks
  | h + 1, .nd l ks, e => if 4 < (putT h (ks.getD (rankT l e) default) e).l.length then splitT l ks (rankT l e) (putT h (ks.getD (rankT l e) default) e) else .nd l (ks.set (rankT l e) (putT h (ks.getD (rankT l e) default) e))
theorem flat_halves {h : Nat} {K : BT} (hs : Shp h K) {m : Nat} (hm : m < K.l.length) : flat h K = flat h (.nd (K.l.take m) (K.ks.take (m + 1))) ++ K.l.getD m ⟨⟨#[]⟩, 0⟩ :: flat h (.nd (K.l.drop (m + 1)) (K.ks.drop (m + 1))) ∧ Shp h (.nd (K.l.take m) (K.ks.take (m + 1))) ∧ Shp h (.nd (K.l.drop (m + 1)) (K.ks.drop (m + 1))) := by
  obtain ⟨l, ks⟩ := K
  have hm' : m < l.length := hm
  have hg : l.getD m ⟨⟨#[]⟩, 0⟩ = l[m] := by simp [List.getD, hm']
  show flat h (.nd l ks) = flat h (.nd (l.take m) (ks.take (m + 1))) ++ l.getD m ⟨⟨#[]⟩, 0⟩ :: flat h (.nd (l.drop (m + 1)) (ks.drop (m + 1))) ∧ _
  rw [hg]
  cases h with
  | zero =>
    have hk : ks = [] := hs
    subst hk
    exact ⟨list_cut hm', rfl, rfl⟩
  | succ h =>
    have hk : ks.length = l.length + 1 := hs.1
    obtain ⟨K1, e1, c1, d1, d2, _⟩ := node_cut hs (i := m) (by omega)
    obtain ⟨K2, e2, c2, d3, d4, d5⟩ := node_cut hs (i := m + 1) (by omega)
    have t1 : ks.take (m + 1) = ks.take m ++ K1 :: [] := by
      rw [List.take_add_one, e1]
      rfl
    have t2 : ks.drop (m + 1) = K2 :: ks.drop (m + 1 + 1) := by
      have hlt : m + 1 < ks.length := by omega
      rw [List.drop_eq_getElem_cons hlt]
      rw [List.getElem?_eq_getElem hlt] at e2
      rw [Option.some.inj e2]
    refine ⟨?_, ⟨?_, fun k hk2 => hs.2 k (List.mem_of_mem_take hk2)⟩, ⟨?_, fun k hk2 => hs.2 k (List.mem_of_mem_drop hk2)⟩⟩
    · have f1 := flat_cut (h := h) (l1 := l.take (m + 1)) (l2 := l.drop (m + 1)) (k1 := ks.take (m + 1)) (K := K2) (k2 := ks.drop (m + 1 + 1)) (by rw [d3, d4])
      rw [List.take_append_drop, ← c2] at f1
      have f2 := flat_cut (h := h) (l1 := l.take m) (l2 := []) (k1 := ks.take m) (K := K1) (k2 := []) (by rw [d1, d2])
      have f3 := flat_cut (h := h) (l1 := []) (l2 := l.drop (m + 1)) (k1 := []) (K := K2) (k2 := ks.drop (m + 1 + 1)) rfl
      rw [List.append_nil] at f2
      rw [← t1] at f2
      rw [List.nil_append, List.nil_append, ← t2] at f3
      rw [f1, f2, f3]
      have wv1 : ∀ {l1 : List Te} {m1 : List (List Te)} {x : Te} {m : List Te}, l1.length = m1.length → wvp (l1 ++ [x]) (m1 ++ [m]) = wvp l1 m1 ++ (m ++ [x]) := by
        intro l1
        induction l1 with
        | nil => intro m1 x m hl; cases m1 with
          | nil => rfl
          | cons _ _ => cases hl
        | cons y l1 ih => intro m1 x m hl; cases m1 with
          | nil => cases hl
          | cons n m1 =>
            rw [List.cons_append, List.cons_append, wvp, wvp, ih (by simpa using hl)]
            simp
      rw [List.take_succ_eq_append_getElem hm', t1, List.map_append, List.map_cons, List.map_nil, wv1 (by rw [List.length_map, d1, d2])]
      simp [tlW, wvp]
    · show (ks.take (m + 1)).length = (l.take m).length + 1
      rw [List.length_take, List.length_take]; omega
    · show (ks.drop (m + 1)).length = (l.drop (m + 1)).length + 1
      rw [List.length_drop, List.length_drop]; omega
theorem splitT_ok {h : Nat} {l : List Te} {ks : List BT} {i : Nat} {K : BT} (hs : Shp (h + 1) (.nd l ks)) (hi : i ≤ l.length) (hK : Shp h K) (h5 : K.l.length = 5) : Shp (h + 1) (splitT l ks i K) ∧ flat (h + 1) (splitT l ks i K) = wvp (l.take i) ((ks.take i).map (flat h)) ++ (flat h K ++ tlW (l.drop i) ((ks.drop (i + 1)).map (flat h))) := by
  obtain ⟨_, _, c1, d1, d2, d3⟩ := node_cut hs hi
  obtain ⟨f1, s1, s2⟩ := flat_halves hK (m := K.l.length / 2) (by omega)
  have hk := hs.1
  unfold splitT
  refine ⟨⟨?_, fun k hk2 => ?_⟩, ?_⟩
  · simp only [List.length_append, List.length_cons, List.length_drop, List.length_take]
    omega
  · rcases List.mem_append.1 hk2 with h1 | h1
    · exact hs.2 k (List.mem_of_mem_take h1)
    · rcases List.mem_cons.1 h1 with rfl | h1
      · refine ⟨?_, ?_, s1⟩
        · show 2 ≤ (K.l.take (K.l.length / 2)).length
          rw [List.length_take]; omega
        · show (K.l.take (K.l.length / 2)).length ≤ 4
          rw [List.length_take]; omega
      · rcases List.mem_cons.1 h1 with rfl | h1
        · refine ⟨?_, ?_, s2⟩
          · show 2 ≤ (K.l.drop (K.l.length / 2 + 1)).length
            rw [List.length_drop]; omega
          · show (K.l.drop (K.l.length / 2 + 1)).length ≤ 4
            rw [List.length_drop]; omega
        · exact hs.2 k (List.mem_of_mem_drop h1)
  · rw [flat_cut (by rw [d1, d2]), f1]
    have e : ∀ (x : Te) (l : List Te) (m : List Te) (ms : List (List Te)), tlW (x :: l) (m :: ms) = x :: (m ++ tlW l ms) := fun _ _ _ _ => rfl
    rw [List.map_cons, e]
    simp
theorem putT_ok : ∀ (h : Nat) (T : BT) (e : Te), Shp h T → Srt (flat h T) → e ∉ flat h T → Shp h (putT h T e) ∧ flat h (putT h T e) = insT (flat h T) e ∧ T.l.length ≤ (putT h T e).l.length ∧ (putT h T e).l.length ≤ T.l.length + 1
  | 0, .nd l ks, e, hs, hS, hn => ⟨hs, rfl, by show l.length ≤ (insT l e).length; rw [len_ins]; omega, by show (insT l e).length ≤ l.length + 1; rw [len_ins]; omega⟩
  | h + 1, .nd l ks, e, hs, hS, hn => by
    obtain ⟨hl, K, hK, hf, hA, hB, hSK⟩ := node_lt hs hS e
    obtain ⟨r1, _, _⟩ := rank_cut hl e
    have hel : e ∉ l := fun hm => hn (by
      obtain ⟨K0, _, hk0, _⟩ := node_cut hs (Nat.zero_le _)
      have := flat_cut (h := h) (l1 := []) (l2 := l) (k1 := []) (K := K0) (k2 := ks.drop 1) rfl
      rw [List.nil_append, List.nil_append] at this
      rw [show ks = K0 :: ks.drop 1 from hk0, this]
      exact List.mem_append_right _ (List.mem_append_right _ (tlW_sub hm)))
    have hgK : ks.getD (rankT l e) default = K := by simp [List.getD, hK]
    have hmK : K ∈ ks := List.mem_of_getElem? hK
    obtain ⟨k1, k2, k3⟩ := hs.2 K hmK
    have hnK : e ∉ flat h K := fun hm => hn (by rw [hf]; exact List.mem_append_right _ (List.mem_append_left _ hm))
    obtain ⟨p1, p2, p3, p4⟩ := putT_ok h K e k3 hSK hnK
    obtain ⟨_, _, c1, d1, d2, d3⟩ := node_cut hs r1
    have hins : insT (flat (h + 1) (.nd l ks)) e = wvp (l.take (rankT l e)) ((ks.take (rankT l e)).map (flat h)) ++ (insT (flat h K) e ++ tlW (l.drop (rankT l e)) ((ks.drop (rankT l e + 1)).map (flat h))) := by
      rw [hf, insT_app hA, insT_app2 (hB hel)]
    unfold putT
    rw [hgK, hins]
    by_cases q : 4 < (putT h K e).l.length
    · rw [if_pos q]
      obtain ⟨s1, s2⟩ := splitT_ok hs r1 p1 (by omega)
      refine ⟨s1, by rw [s2, p2], ?_, ?_⟩ <;> show _ ≤ _ <;> simp only [splitT, BT.l, List.length_append, List.length_cons, List.length_take, List.length_drop] <;> omega
    · rw [if_neg q]
      have hset : ks.set (rankT l e) (putT h K e) = ks.take (rankT l e) ++ putT h K e :: ks.drop (rankT l e + 1) := by
        rw [List.set_eq_take_append_cons_drop, if_pos (by have := hs.1; omega)]
      refine ⟨⟨by rw [List.length_set]; exact hs.1, fun k hk => ?_⟩, ?_, Nat.le_refl _, Nat.le_succ _⟩
      · rw [hset] at hk
        rcases List.mem_append.1 hk with h1 | h1
        · exact hs.2 k (List.mem_of_mem_take h1)
        · rcases List.mem_cons.1 h1 with rfl | h1
          · exact ⟨by omega, by omega, p1⟩
          · exact hs.2 k (List.mem_of_mem_drop h1)
      · rw [hset]
        have := flat_cut (h := h) (l1 := l.take (rankT l e)) (l2 := l.drop (rankT l e)) (k1 := ks.take (rankT l e)) (K := putT h K e) (k2 := ks.drop (rankT l e + 1)) (by rw [d1, d2])
        rw [List.take_append_drop] at this
        rw [this, p2]
open Go.RowKit Go.Shelf
theorem isNaN_any (a : Int) (w : World) : Calls Tryz.prog 92 #[.int .i64 a] w fun e w' => e = .returned (.bool false) ∧ w = w' := by
  have h : (a != a) = false := by simp
  go_enter Tryz.func92, Tryz.ntmps92
  go_wp2
  go_ret
  exact ⟨rfl, rfl⟩
theorem cmpCompare_any (a b : Int) (w : World) : Calls Tryz.prog 58 #[.int .i64 a, .int .i64 b] w fun e w' => e = .returned (.int .i64 (cmpN a b)) ∧ w = w' := by
  by_cases h1 : a < b
  · have d1 : decide (a < b) = true := by simpa using h1
    have Fin : Hid (cmpN a b = -1) := by unfold Hid cmpN; rw [if_pos h1]
    clear h1
    go_enter Tryz.func58, Tryz.ntmps58
    go_wp2_with fail
    refine (isNaN_any _ _).mono ?_
    rintro e w' ⟨rfl, rfl⟩
    go_wp2_with fail
    refine (isNaN_any _ _).mono ?_
    rintro e w' ⟨rfl, rfl⟩
    go_wp2
    go_ret
    exact ⟨ret_int Fin.out.symm, rfl⟩
  · have d1 : decide (a < b) = false := by simpa using h1
    by_cases h2 : b < a
    · have d2 : decide (b < a) = true := by simpa using h2
      have Fin : Hid (cmpN a b = 1) := by unfold Hid cmpN; rw [if_neg h1, if_pos h2]
      clear h1 h2
      go_enter Tryz.func58, Tryz.ntmps58
      go_wp2_with fail
      refine (isNaN_any _ _).mono ?_
      rintro e w' ⟨rfl, rfl⟩
      go_wp2_with fail
      refine (isNaN_any _ _).mono ?_
      rintro e w' ⟨rfl, rfl⟩
      go_wp2
      go_ret
      exact ⟨ret_int Fin.out.symm, rfl⟩
    · have d2 : decide (b < a) = false := by simpa using h2
      have Fin : Hid (cmpN a b = 0) := by unfold Hid cmpN; rw [if_neg h1, if_neg h2]
      clear h1 h2
      go_enter Tryz.func58, Tryz.ntmps58
      go_wp2_with fail
      refine (isNaN_any _ _).mono ?_
      rintro e w' ⟨rfl, rfl⟩
      go_wp2_with fail
      refine (isNaN_any _ _).mono ?_
      rintro e w' ⟨rfl, rfl⟩
      go_wp2
      go_ret
      exact ⟨ret_int Fin.out.symm, rfl⟩
theorem cmpStr_any (a b : ByteArray) (w : World) :
    Calls Tryz.prog 90 #[.string a, .string b] w fun e w' => e = .returned (.int .i64 (cmpK a b)) ∧ w = w' := by
  go_enter Tryz.func90, Tryz.ntmps90
  go_wp2
  rw [run_callFunc_extern Tryz.func122 (by kernel_rfl) (by kernel_rfl) (by kernel_rfl) (e := Extern.BytealgCompare.compare) (by kernel_rfl), Lib.run_compareString]
  simp only [Result.andThen]
  rw [Oper.upon_value]
  go_wp2
  go_ret
  exact ⟨rfl, rfl⟩
theorem sCompare_any (a b : ByteArray) (w : World) :
    Calls Tryz.prog 55 #[.string a, .string b] w fun e w' => e = .returned (.int .i64 (cmpK a b)) ∧ w = w' := by
  go_enter Tryz.func55, Tryz.ntmps55
  go_wp2_with (go_at_call 90; refine (cmpStr_any _ _ _).mono ?_; rintro e w' ⟨rfl, rfl⟩)
  go_ret
  exact ⟨rfl, rfl⟩
theorem cmpOr_any (x y z : Int) (q : Nat) (w : World) (h0 : w.cell? ⟨q, 0, none⟩ = some (.int .i64 x)) (h1 : w.cell? ⟨q, 1, none⟩ = some (.int .i64 y)) (hz : Hid (z = if x = 0 then y else x)) : Calls Tryz.prog 96 #[.slice (some ⟨q, 0, none⟩) 2 2] w fun e w' => e = .returned (.int .i64 z) ∧ w = w' := by
  have lq := World.block_lt_of_cell? w _ h0
  dsimp only at lq
  go_enter Tryz.func96, Tryz.ntmps96
  go_wp2
  go_loopw [8] (fun i wr => ∃ k : Nat, k ≤ 2 ∧ i = .int .i64 k ∧ w = wr ∧ Hid (0 < k → x = 0) ∧ Hid (1 < k → y = 0)) (fun i _ => 2 - (intOf i).toNat)
  case atStart => exact ⟨0, by omega, rfl, rfl, fun h => by omega, fun h => by omega⟩
  case round =>
    obtain ⟨k, hk, rfl, rfl, hx, hy⟩ := hrel
    rcases (by omega : k = 0 ∨ k = 1 ∨ k = 2) with rfl | rfl | rfl
    · by_cases e0 : x = 0
      · subst e0
        have hx2 : Hid (0 < 1 → (0 : Int) = 0) := fun _ => rfl
        have hy2 : Hid (1 < 1 → y = 0) := fun h => by omega
        clear hx hy
        go_wp2
        go_roundw
        case rel => exact ⟨1, by omega, by go_num, by simp, by unfold Hid; simp, hy2⟩
        case measure => simp [intOf]
      · have d0 : (x != 0) = true := by simpa using e0
        have Fin : Hid (z = x) := hz.out.trans (if_neg e0)
        clear e0 hx hy hz
        go_wp2
        go_ret
        exact ⟨ret_int Fin.out.symm, rfl⟩
    · obtain rfl := hx.out (by omega)
      by_cases e0 : y = 0
      · subst e0
        have hx2 : Hid (0 < 2 → (0 : Int) = 0) := fun _ => rfl
        clear hx hy
        go_wp2
        go_roundw
        case rel => exact ⟨2, by omega, by go_num, by simp, by unfold Hid; simp, by unfold Hid; simp⟩
        case measure => simp [intOf]
      · have d0 : (y != 0) = true := by simpa using e0
        have Fin : Hid (z = y) := hz.out.trans (if_pos rfl)
        clear e0 hx hy hz
        go_wp2
        go_ret
        exact ⟨ret_int Fin.out.symm, rfl⟩
    · obtain rfl := hx.out (by omega)
      obtain rfl := hy.out (by omega)
      have Fin : Hid (z = 0) := hz.out.trans (if_pos rfl)
      clear hx hy hz
      go_wp2
      go_ret
      exact ⟨ret_int Fin.out.symm, rfl⟩
theorem compare_any (a b : Te) (w : World) : Calls Tryz.prog 61 #[.agg #[.string a.key, .int .i64 a.no], .agg #[.string b.key, .int .i64 b.no]] w (Give (.int .i64 (cmpT a b)) w) := by
  have ha := heap_alloc_new w (.cells #[.string a.key, .int .i64 a.no] 65)
  have hxa := (Ext.refl w).alloc_right (.cells #[.string a.key, .int .i64 a.no] 65)
  have z0 : (w.alloc (.cells #[.string a.key, .int .i64 a.no] 65)).cell? ⟨w.heap.size, 0, none⟩ = some (.string a.key) := by rw [Lib.cell_of_heap ha]; rfl
  have z1 : (w.alloc (.cells #[.string a.key, .int .i64 a.no] 65)).cell? ⟨w.heap.size, 1, none⟩ = some (.int .i64 a.no) := by rw [Lib.cell_of_heap ha]; rfl
  have hb := heap_alloc_new (w.alloc (.cells #[.string a.key, .int .i64 a.no] 65)) (.cells #[.string b.key, .int .i64 b.no] 65)
  have hxb := (Ext.refl (w.alloc (.cells #[.string a.key, .int .i64 a.no] 65))).alloc_right (.cells #[.string b.key, .int .i64 b.no] 65)
  have z2 : ((w.alloc (.cells #[.string a.key, .int .i64 a.no] 65)).alloc (.cells #[.string b.key, .int .i64 b.no] 65)).cell? ⟨(w.alloc (.cells #[.string a.key, .int .i64 a.no] 65)).heap.size, 0, none⟩ = some (.string b.key) := by rw [Lib.cell_of_heap hb]; rfl
  have z3 : ((w.alloc (.cells #[.string a.key, .int .i64 a.no] 65)).alloc (.cells #[.string b.key, .int .i64 b.no] 65)).cell? ⟨(w.alloc (.cells #[.string a.key, .int .i64 a.no] 65)).heap.size, 1, none⟩ = some (.int .i64 b.no) := by rw [Lib.cell_of_heap hb]; rfl
  replace z0 := hxb.cell z0
  replace z1 := hxb.cell z1
  have hx1 := hid (hxa.trans hxb)
  rw [World.size_alloc] at z2 z3
  have hc : Hid (cmpT a b = if cmpK a.key b.key = 0 then cmpN a.no b.no else cmpK a.key b.key) := rfl
  generalize cmpT a b = Z at *
  clear ha hb hxa hxb
  go_enter Tryz.func61, Tryz.ntmps61
  go_upto_region 1 with fail
  generalize w.heap.size + 1 = q at *
  generalize w.heap.size = p at *
  have I0 : (fun w' : World => w'.cell? ⟨p, 0, none⟩ = some (.string a.key) ∧ w'.cell? ⟨p, 1, none⟩ = some (.int .i64 a.no) ∧ w'.cell? ⟨q, 0, none⟩ = some (.string b.key) ∧ w'.cell? ⟨q, 1, none⟩ = some (.int .i64 b.no)) ((w.alloc (.cells #[.string a.key, .int .i64 a.no] 65)).alloc (.cells #[.string b.key, .int .i64 b.no] 65)).drew := ⟨z0, z1, z2, z3⟩
  replace hx1 := hid (hx1.out.drew_right)
  refine region_J (fun w' : World => w'.cell? ⟨p, 0, none⟩ = some (.string a.key) ∧ w'.cell? ⟨p, 1, none⟩ = some (.int .i64 a.no) ∧ w'.cell? ⟨q, 0, none⟩ = some (.string b.key) ∧ w'.cell? ⟨q, 1, none⟩ = some (.int .i64 b.no)) 13 (by kernel_rfl) ?_
  clear z0 z1 z2 z3
  generalize ((w.alloc (.cells #[.string a.key, .int .i64 a.no] 65)).alloc (.cells #[.string b.key, .int .i64 b.no] 65)).drew = w2 at *
  refine JO 0 (v := ?vc0) I0 ?yc0 ?rc0
  case yc0 => (intro w h; obtain ⟨_, _, _, _⟩ := h; go_simp; with_reducible rfl)
  simp only [Act.put, lyA, lyB, lyC, lyD, lyE, lyF]
  refine JO 1 (v := ?vc1) I0 ?yc1 ?rc1
  case yc1 => (intro w h; obtain ⟨_, _, _, _⟩ := h; go_simp; with_reducible rfl)
  simp only [Act.put, lyA, lyB, lyC, lyD, lyE, lyF]
  refine JO 2 (v := ?vc2) I0 ?yc2 ?rc2
  case yc2 => (intro w h; obtain ⟨_, _, _, _⟩ := h; go_simp; with_reducible rfl)
  simp only [Act.put, lyA, lyB, lyC, lyD, lyE, lyF]
  refine JO 3 (v := ?vc3) I0 ?yc3 ?rc3
  case yc3 => (intro w h; obtain ⟨_, _, _, _⟩ := h; go_simp; with_reducible rfl)
  simp only [Act.put, lyA, lyB, lyC, lyD, lyE, lyF]
  refine JO 5 (v := ?vc5) I0 ?yc5 ?rc5
  case yc5 => (intro w h; obtain ⟨_, _, _, _⟩ := h; go_simp; with_reducible rfl)
  simp only [Act.put, lyA, lyB, lyC, lyD, lyE, lyF]
  refine JO 6 (v := ?vc6) I0 ?yc6 ?rc6
  case yc6 => (intro w h; obtain ⟨_, _, _, _⟩ := h; go_simp; with_reducible rfl)
  simp only [Act.put, lyA, lyB, lyC, lyD, lyE, lyF]
  refine JO 7 (v := ?vc7) I0 ?yc7 ?rc7
  case yc7 => (intro w h; obtain ⟨_, _, _, _⟩ := h; go_simp; with_reducible rfl)
  simp only [Act.put, lyA, lyB, lyC, lyD, lyE, lyF]
  refine JO 8 (v := ?vc8) I0 ?yc8 ?rc8
  case yc8 => (intro w h; obtain ⟨_, _, _, _⟩ := h; go_simp; with_reducible rfl)
  simp only [Act.put, lyA, lyB, lyC, lyD, lyE, lyF]
  refine J_one 4 rfl (by kernel_rfl) (fun K hK => ?_)
  go_simp
  refine (sCompare_any _ _ _).mono ?_
  rintro e w' ⟨rfl, rfl⟩
  refine hK _ _ ⟨fun _ => I0, ?_⟩
  clear hK K
  try simp only [Act.put, lyA, lyB, lyC, lyD, lyE, lyF]
  refine J_one 9 rfl (by kernel_rfl) (fun K hK => ?_)
  go_simp
  refine (cmpCompare_any _ _ _).mono ?_
  rintro e w' ⟨rfl, rfl⟩
  refine hK _ _ ⟨fun _ => I0, ?_⟩
  clear hK K
  try simp only [Act.put, lyA, lyB, lyC, lyD, lyE, lyF]
  refine J_one 10 rfl (by kernel_rfl) (fun K hK => ?_)
  go_simp
  have I1 : (fun w' : World => w'.cell? ⟨p, 0, none⟩ = some (.string a.key) ∧ w'.cell? ⟨p, 1, none⟩ = some (.int .i64 a.no) ∧ w'.cell? ⟨q, 0, none⟩ = some (.string b.key) ∧ w'.cell? ⟨q, 1, none⟩ = some (.int .i64 b.no)) (w2.alloc (.cells #[.int .i64 (cmpK a.key b.key), .int .i64 (cmpN a.no b.no)] 3)) := ⟨((Ext.refl w2).alloc_right _).cell I0.1, ((Ext.refl w2).alloc_right _).cell I0.2.1, ((Ext.refl w2).alloc_right _).cell I0.2.2.1, ((Ext.refl w2).alloc_right _).cell I0.2.2.2⟩
  have hx2 := hid (hx1.out.alloc_right (.cells #[.int .i64 (cmpK a.key b.key), .int .i64 (cmpN a.no b.no)] 3))
  have y0 : (w2.alloc (.cells #[.int .i64 (cmpK a.key b.key), .int .i64 (cmpN a.no b.no)] 3)).cell? ⟨w2.heap.size, 0, none⟩ = some (.int .i64 (cmpK a.key b.key)) := by rw [Lib.cell_of_heap (heap_alloc_new w2 _)]; rfl
  have y1 : (w2.alloc (.cells #[.int .i64 (cmpK a.key b.key), .int .i64 (cmpN a.no b.no)] 3)).cell? ⟨w2.heap.size, 1, none⟩ = some (.int .i64 (cmpN a.no b.no)) := by rw [Lib.cell_of_heap (heap_alloc_new w2 _)]; rfl
  generalize w2.heap.size = r at *
  generalize w2.alloc (.cells #[.int .i64 (cmpK a.key b.key), .int .i64 (cmpN a.no b.no)] 3) = w3 at *
  refine hK _ _ ⟨fun _ => I1, ?_⟩
  clear hK K
  try simp only [Act.put, lyA, lyB, lyC, lyD, lyE, lyF]
  refine J_one 11 rfl (by kernel_rfl) (fun K hK => ?_)
  go_simp
  refine (cmpOr_any _ _ _ _ _ y0 y1 hc).mono ?_
  rintro e w' ⟨rfl, rfl⟩
  refine hK _ _ ⟨fun _ => I1, ?_⟩
  clear hK K
  try simp only [Act.put, lyA, lyB, lyC, lyD, lyE, lyF]
  refine J_one 12 rfl (by kernel_rfl) (fun K hK => ?_)
  go_simp
  refine hK _ _ ⟨fun _ => I1, ?_⟩
  clear hK K
  try simp only [Act.put, lyD, lyE, lyF]
  refine J_done (by kernel_rfl) (OnlyOn.normal ?_)
  go_wp2
  go_ret
  exact ⟨rfl, hx2.out⟩
open Go.RowKit Go.Shelf
def tcells (x : Te) : List Value := [.string x.key, .int .i64 x.no]
def tents : List Te → List Value
  | [] => []
  | x :: l => tcells x ++ tents l
theorem tents_len : ∀ l : List Te, (tents l).length = l.length * 2
  | [] => rfl
  | x :: l => by rw [tents, List.length_append, tents_len l, List.length_cons]; simp [tcells]; omega
theorem tents_append : ∀ a b : List Te, tents (a ++ b) = tents a ++ tents b
  | [], b => rfl
  | x :: a, b => by rw [List.cons_append, tents, tents, tents_append a b, List.append_assoc]
theorem tents_at : ∀ (l : List Te) (k : Nat) (h : k < l.length) (j : Nat), j < 2 → (tents l)[k * 2 + j]? = (tcells l[k])[j]?
  | x :: l, 0, h, j, hj => by
    rw [tents, List.getElem?_append_left (by simp [tcells]; omega)]
    simp
  | x :: l, k + 1, h, j, hj => by
    have := tents_at l k (by simpa using h) j hj
    rw [tents, List.getElem?_append_right (by simp [tcells]; omega), List.getElem_cons_succ, ← this]
    congr 1
    simp [tcells]
    omega
theorem tents_one : ∀ (l : List Te), ∀ u ∈ tents l, u.oneCell' = true
  | [], u, h => by cases h
  | x :: l, u, h => by
    rcases List.mem_append.1 h with h | h
    · rcases List.mem_cons.1 h with rfl | h
      · rfl
      · rcases List.mem_cons.1 h with rfl | h
        · rfl
        · cases h
    · exact tents_one l u h
def tth (l : List Te) (k : Nat) : Te := l.getD k ⟨⟨#[]⟩, 0⟩
theorem tth_get {l : List Te} {k : Nat} (h : k < l.length) : tth l k = l[k] := by simp [tth, List.getD, h]
def RdN (w : World) (A : Option Addr) (n c : Nat) (l : List Te) : Prop := Rd w 2 A n c (tents l)
theorem RdN.len {w : World} {A : Option Addr} {n c : Nat} {l : List Te} (h : RdN w A n c l) : l.length = n := by have := h.1; rw [tents_len] at this; omega
theorem RdN.ext {w w' : World} {A : Option Addr} {n c : Nat} {l : List Te} (h : RdN w A n c l) (hb : Ext w w') : RdN w' A n c l := Rd.ext h hb
theorem RdN.at_ {w : World} {A : Option Addr} {n c : Nat} {l : List Te} (h : RdN w A n c l) {k : Nat} (hk : k < n) : ∃ ad, A = some ad ∧ w.cell? (ad.add (k * 2)) = some (.string (tth l k).key) ∧ w.cell? ⟨(ad.add (k * 2)).block, (ad.add (k * 2)).off + 1, none⟩ = some (.int .i64 (tth l k).no) := by
  obtain ⟨ad, hA, hc⟩ := h.2.2.2 (by omega)
  have hl : k < l.length := by rw [h.len]; exact hk
  rw [tth_get hl]
  refine ⟨ad, hA, ?_, ?_⟩
  · exact hc (k * 2 + 0) _ (by rw [tents_at l k hl 0 (by decide)]; rfl)
  · exact cell_fk (hc (k * 2 + 1) _ (by rw [tents_at l k hl 1 (by decide)]; rfl)) (by decide)
theorem rank_is {l : List Te} {e : Te} {k : Nat} (hk : k ≤ l.length) (h1 : ∀ t, t < k → cmpT (tth l t) e < 0) (h2 : ∀ t, k ≤ t → t < l.length → ¬ cmpT (tth l t) e < 0) : rankT l e = k := by
  unfold rankT
  conv => lhs; rw [← List.take_append_drop k l]
  rw [List.countP_append]
  have e1 : (l.take k).countP (fun x => decide (cmpT x e < 0)) = (l.take k).length := by
    rw [List.countP_eq_length]
    intro x hx
    obtain ⟨i, hi, rfl⟩ := List.getElem_of_mem hx
    rw [List.length_take] at hi
    rw [List.getElem_take]
    have := h1 i (by omega)
    rw [tth_get (by omega)] at this
    simpa using this
  have e2 : (l.drop k).countP (fun x => decide (cmpT x e < 0)) = 0 := by
    rw [List.countP_eq_zero]
    intro x hx
    obtain ⟨i, hi, rfl⟩ := List.getElem_of_mem hx
    rw [List.length_drop] at hi
    rw [List.getElem_drop]
    have := h2 (k + i) (by omega) (by omega)
    rw [tth_get (by omega)] at this
    simpa using this
  rw [e1, e2, List.length_take]
  omega
theorem srt_nth {l : List Te} (h : Srt l) {i j : Nat} (hij : i < j) (hj : j < l.length) : cmpT (tth l i) (tth l j) < 0 := by
  rw [tth_get (by omega), tth_get hj]
  exact List.pairwise_iff_getElem.1 h i j (by omega) hj hij
theorem mem_at {l : List Te} (h : Srt l) (e : Te) : memT l e = (decide (rankT l e < l.length) && (cmpT (tth l (rankT l e)) e == 0)) := by
  obtain ⟨r1, r2, r3⟩ := rank_cut h e
  by_cases hr : rankT l e < l.length
  · rw [decide_eq_true hr, Bool.true_and]
    have hd := List.drop_eq_getElem_cons hr
    have hl : l = l.take (rankT l e) ++ l[rankT l e] :: l.drop (rankT l e + 1) := list_cut hr
    conv => lhs; rw [hl]
    rw [memT_app, memT_lt r2, Bool.false_or, tth_get hr]
    unfold memT
    rw [List.any_cons]
    by_cases q : cmpT l[rankT l e] e = 0
    · rw [beq_iff_eq.2 q, Bool.true_or]
    · rw [beq_eq_false_iff_ne.2 q, Bool.false_or]
      have h4 := r3 l[rankT l e] (by rw [hd]; exact List.mem_cons_self)
      have h5 : cmpT e l[rankT l e] < 0 := by rw [cmpT_anti]; omega
      rw [hl] at h
      obtain ⟨_, s2, _⟩ := srt_app.1 h
      exact memT_gt (fun x hx => cmpT_trans h5 ((srt_cons.1 s2).1 x hx))
  · rw [decide_eq_false hr, Bool.false_and]
    have : l.take (rankT l e) = l := List.take_of_length_le (by omega)
    rw [this] at r2
    exact memT_lt r2
theorem bsearch_any (A : Option Addr) (n c : Nat) (l : List Te) (e : Te) (w : World) (hl : RdN w A n c l) (hS : Srt l) (hn : n ≤ 1000000) : Calls Tryz.prog 85 #[.slice A n c, .agg #[.string e.key, .int .i64 e.no], .func (.func 61) #[] #[]] w (Give (.tuple #[.int .i64 (rankT l e), .bool (memT l e)]) w) := by
  have hmx := Rd.max hl
  have hlen := hl.len
  have hma := hid (mem_at hS e)
  have ha := heap_alloc_new w (.cells #[.string e.key, .int .i64 e.no] 65)
  have hxa := hid ((Ext.refl w).alloc_right (.cells #[.string e.key, .int .i64 e.no] 65))
  have z0 : (w.alloc (.cells #[.string e.key, .int .i64 e.no] 65)).cell? ⟨w.heap.size, 0, none⟩ = some (.string e.key) := by rw [Lib.cell_of_heap ha]; rfl
  have z1 : (w.alloc (.cells #[.string e.key, .int .i64 e.no] 65)).cell? ⟨w.heap.size, 1, none⟩ = some (.int .i64 e.no) := by rw [Lib.cell_of_heap ha]; rfl
  have en : ∀ (a b : Value) (w : World), (callFunc 61 #[a, b]).run Tryz.prog w = .ok (.enter 61 #[a, b]) w := fun a b w => by kernel_rfl
  have hlo := hid (fun t k (h1 : t < k) (h2 : k < l.length) (h : cmpT (tth l k) e < 0) => cmpT_trans (srt_nth hS h1 h2) h)
  have hri := hid (fun k h0 h1 h2 => rank_is (l := l) (e := e) (k := k) h0 h1 h2)
  replace hl := hid (hl.ext hxa.out)
  clear ha hS
  go_enter Tryz.func85, Tryz.ntmps85
  go_upto_region 1 with fail
  generalize w.alloc (.cells #[.string e.key, .int .i64 e.no] 65) = w1 at *
  generalize w.heap.size = p at *
  go_wp2_with fail
  go_loopw [9, 10] (fun i j wr => ∃ lo hi : Nat, i = .int .i64 lo ∧ j = .int .i64 hi ∧ lo ≤ hi ∧ hi ≤ n ∧ Hid (∀ t, t < lo → cmpT (tth l t) e < 0) ∧ Hid (∀ t, hi ≤ t → t < l.length → ¬ cmpT (tth l t) e < 0) ∧ Hid (Ext w1 wr)) (fun i j _ => (intOf j).toNat - (intOf i).toNat)
  case atStart => exact ⟨0, n, rfl, rfl, by omega, by omega, fun t h => by omega, fun t h h2 => by omega, Ext.refl _⟩
  case round =>
    obtain ⟨lo, hi, rfl, rfl, hle, hhi, hA, hB, hx⟩ := hrel
    by_cases hlt : lo < hi
    · obtain ⟨md, hmd⟩ : ∃ md, md = (lo + hi) / 2 := ⟨_, rfl⟩
      have hm1 : lo ≤ md ∧ md < hi := by omega
      obtain ⟨ad, rfl, x0, x1⟩ := (hl.out.ext hx.out).at_ (k := md) (by omega)
      have y0 := hx.out.cell z0
      have y1 := hx.out.cell z1
      have hms : ((lo : Int) + (hi : Int)) / 2 = (md : Int) := by omega
      have hmn : (md : Int) < (n : Int) := by omega
      generalize hxx : tth l md = x at *
      replace hxx := hid hxx
      have I0 : (fun w' : World => w'.cell? (ad.add (md * 2)) = some (.string x.key) ∧ w'.cell? ⟨(ad.add (md * 2)).block, (ad.add (md * 2)).off + 1, none⟩ = some (.int .i64 x.no) ∧ w'.cell? ⟨p, 0, none⟩ = some (.string e.key) ∧ w'.cell? ⟨p, 1, none⟩ = some (.int .i64 e.no)) wr.drew := ⟨x0, x1, y0, y1⟩
      replace hmd := hid hmd
      have hloT : Hid (cmpT x e < 0 → ∀ t, t < md + 1 → cmpT (tth l t) e < 0) := fun h t ht => by
        by_cases htm : t = md
        · subst htm; rw [hxx.out]; exact h
        · exact hlo.out t md (by omega) (by omega) (by rw [hxx.out]; exact h)
      have hhiT : Hid (¬ cmpT x e < 0 → ∀ t, md ≤ t → t < l.length → ¬ cmpT (tth l t) e < 0) := fun h t h1 h2 hc => by
        by_cases htm : t = md
        · subst htm; rw [hxx.out] at hc; exact h hc
        · exact h (by rw [← hxx.out]; exact hlo.out md t (by omega) h2 hc)
      go_upto_region 5 with fail
      refine region_J (fun w' : World => w'.cell? (ad.add (md * 2)) = some (.string x.key) ∧ w'.cell? ⟨(ad.add (md * 2)).block, (ad.add (md * 2)).off + 1, none⟩ = some (.int .i64 x.no) ∧ w'.cell? ⟨p, 0, none⟩ = some (.string e.key) ∧ w'.cell? ⟨p, 1, none⟩ = some (.int .i64 e.no)) 8 (by kernel_rfl) ?_
      refine JO 0 (v := ?vc0) I0 ?yc0 ?rc0
      case yc0 => (intro w h; obtain ⟨_, _, _, _⟩ := h; go_simp; with_reducible rfl)
      simp only [Act.put, lyA, lyB, lyC, lyD, lyE, lyF]
      refine JO 1 (v := ?vc1) I0 ?yc1 ?rc1
      case yc1 => (intro w h; obtain ⟨_, _, _, _⟩ := h; go_simp; with_reducible rfl)
      simp only [Act.put, lyA, lyB, lyC, lyD, lyE, lyF]
      refine JO 2 (v := ?vc2) I0 ?yc2 ?rc2
      case yc2 => (intro w h; obtain ⟨_, _, _, _⟩ := h; go_simp; with_reducible rfl)
      simp only [Act.put, lyA, lyB, lyC, lyD, lyE, lyF]
      refine JO 3 (v := ?vc3) I0 ?yc3 ?rc3
      case yc3 => (intro w h; obtain ⟨_, _, _, _⟩ := h; go_simp; with_reducible rfl)
      simp only [Act.put, lyA, lyB, lyC, lyD, lyE, lyF]
      refine JO 4 (v := ?vc4) I0 ?yc4 ?rc4
      case yc4 => (intro w h; obtain ⟨_, _, _, _⟩ := h; go_simp; with_reducible rfl)
      simp only [Act.put, lyA, lyB, lyC, lyD, lyE, lyF]
      refine JO 5 (v := ?vc5) I0 ?yc5 ?rc5
      case yc5 => (intro w h; obtain ⟨_, _, _, _⟩ := h; go_simp; with_reducible rfl)
      simp only [Act.put, lyA, lyB, lyC, lyD, lyE, lyF]
      refine J_one 6 rfl (by kernel_rfl) (fun K hK => ?_)
      go_simp
      refine (compare_any x e _).mono ?_
      rintro e' w5 ⟨rfl, hx5⟩
      have I5 : (fun w' : World => w'.cell? (ad.add (md * 2)) = some (.string x.key) ∧ w'.cell? ⟨(ad.add (md * 2)).block, (ad.add (md * 2)).off + 1, none⟩ = some (.int .i64 x.no) ∧ w'.cell? ⟨p, 0, none⟩ = some (.string e.key) ∧ w'.cell? ⟨p, 1, none⟩ = some (.int .i64 e.no)) w5 := ⟨hx5.cell I0.1, hx5.cell I0.2.1, hx5.cell I0.2.2.1, hx5.cell I0.2.2.2⟩
      have hx6 := hid (hx.out.drew_right.trans hx5)
      clear hx5
      refine hK _ _ ⟨fun _ => I5, ?_⟩
      clear hK K
      try simp only [Act.put, lyA, lyB, lyC, lyD, lyE, lyF]
      refine J_one 7 rfl (by kernel_rfl) (fun K hK => ?_)
      go_simp
      refine hK _ _ ⟨fun _ => I5, ?_⟩
      clear hK K
      try simp only [Act.put, lyD, lyE, lyF]
      refine J_done (by kernel_rfl) (OnlyOn.normal ?_)
      generalize cmpT x e = z at *
      by_cases hz : z < 0
      · have hA2 := hid (hloT.out hz)
        have hB2 := hB
        clear hloT hhiT hA hB hxx I5 x0 x1 y0 y1 I0
        go_wp2_with fail
        go_roundw
        case rel => exact ⟨md + 1, hi, by go_num, rfl, by omega, by omega, hA2, hB2, hx6⟩
        case measure => simp [intOf]; omega
      · have hB2 := hid (hhiT.out hz)
        have hA2 := hA
        clear hloT hhiT hA hB hxx I5 x0 x1 y0 y1 I0
        go_wp2_with fail
        go_roundw
        case rel => exact ⟨lo, md, rfl, rfl, by omega, by omega, hA2, hB2, hx6⟩
        case measure => simp [intOf]; omega
    · obtain rfl : hi = lo := by omega
      have hr := hri.out hi (by omega) hA.out (fun t h1 h2 => by have h3 := hB.out t h1 h2; omega)
      have hnl : ¬ (hi : Int) < (hi : Int) := by omega
      rw [hr] at hma
      replace hr := hid hr
      clear hA hB hlo hri
      by_cases hin : hi < n
      · obtain ⟨ad, rfl, x0, x1⟩ := (hl.out.ext hx.out).at_ hin
        have y0 := hx.out.cell z0
        have y1 := hx.out.cell z1
        have hmn : (hi : Int) < (n : Int) := by omega
        have hd : decide (hi < l.length) = true := by simp; omega
        rw [hd, Bool.true_and] at hma
        clear hd
        generalize tth l hi = x at *
        have I0 : (fun w' : World => w'.cell? (ad.add (hi * 2)) = some (.string x.key) ∧ w'.cell? ⟨(ad.add (hi * 2)).block, (ad.add (hi * 2)).off + 1, none⟩ = some (.int .i64 x.no) ∧ w'.cell? ⟨p, 0, none⟩ = some (.string e.key) ∧ w'.cell? ⟨p, 1, none⟩ = some (.int .i64 e.no)) wr.drew := ⟨x0, x1, y0, y1⟩
        go_upto_region 8 with fail
        refine region_J (fun w' : World => w'.cell? (ad.add (hi * 2)) = some (.string x.key) ∧ w'.cell? ⟨(ad.add (hi * 2)).block, (ad.add (hi * 2)).off + 1, none⟩ = some (.int .i64 x.no) ∧ w'.cell? ⟨p, 0, none⟩ = some (.string e.key) ∧ w'.cell? ⟨p, 1, none⟩ = some (.int .i64 e.no)) 16 (by kernel_rfl) ?_
        refine JO 0 (v := ?vd0) I0 ?yd0 ?rd0
        case yd0 => (intro w h; obtain ⟨_, _, _, _⟩ := h; go_simp; with_reducible rfl)
        simp only [Act.put, lyA, lyB, lyC, lyD, lyE, lyF]
        refine JO 1 (v := ?vd1) I0 ?yd1 ?rd1
        case yd1 => (intro w h; obtain ⟨_, _, _, _⟩ := h; go_simp; with_reducible rfl)
        simp only [Act.put, lyA, lyB, lyC, lyD, lyE, lyF]
        refine JO 2 (v := ?vd2) I0 ?yd2 ?rd2
        case yd2 => (intro w h; obtain ⟨_, _, _, _⟩ := h; go_simp; with_reducible rfl)
        simp only [Act.put, lyA, lyB, lyC, lyD, lyE, lyF]
        refine J_one 3 rfl (by kernel_rfl) (fun K hK => ?_)
        go_simp
        refine hK _ _ ⟨fun _ => I0, ?_⟩
        clear hK K
        try simp only [Act.put, lyD, lyE, lyF]
        refine J_one 4 rfl (by kernel_rfl) (fun K hK => ?_)
        go_simp
        refine hK _ _ ⟨fun _ => I0, ?_⟩
        clear hK K
        try simp only [Act.put, lyD, lyE, lyF]
        refine JO 5 (v := ?vd5) I0 ?yd5 ?rd5
        case yd5 => (intro w h; obtain ⟨_, _, _, _⟩ := h; go_simp; with_reducible rfl)
        simp only [Act.put, lyA, lyB, lyC, lyD, lyE, lyF]
        refine JO 6 (v := ?vd6) I0 ?yd6 ?rd6
        case yd6 => (intro w h; obtain ⟨_, _, _, _⟩ := h; go_simp; with_reducible rfl)
        simp only [Act.put, lyA, lyB, lyC, lyD, lyE, lyF]
        refine JO 7 (v := ?vd7) I0 ?yd7 ?rd7
        case yd7 => (intro w h; obtain ⟨_, _, _, _⟩ := h; go_simp; with_reducible rfl)
        simp only [Act.put, lyA, lyB, lyC, lyD, lyE, lyF]
        refine JO 8 (v := ?vd8) I0 ?yd8 ?rd8
        case yd8 => (intro w h; obtain ⟨_, _, _, _⟩ := h; go_simp; with_reducible rfl)
        simp only [Act.put, lyA, lyB, lyC, lyD, lyE, lyF]
        refine JO 9 (v := ?vd9) I0 ?yd9 ?rd9
        case yd9 => (intro w h; obtain ⟨_, _, _, _⟩ := h; go_simp; with_reducible rfl)
        simp only [Act.put, lyA, lyB, lyC, lyD, lyE, lyF]
        refine JO 10 (v := ?vd10) I0 ?yd10 ?rd10
        case yd10 => (intro w h; obtain ⟨_, _, _, _⟩ := h; go_simp; with_reducible rfl)
        simp only [Act.put, lyA, lyB, lyC, lyD, lyE, lyF]
        refine J_one 11 rfl (by kernel_rfl) (fun K hK => ?_)
        go_simp
        refine (compare_any x e _).mono ?_
        rintro e' w5 ⟨rfl, hx5⟩
        have I5 : (fun w' : World => w'.cell? (ad.add (hi * 2)) = some (.string x.key) ∧ w'.cell? ⟨(ad.add (hi * 2)).block, (ad.add (hi * 2)).off + 1, none⟩ = some (.int .i64 x.no) ∧ w'.cell? ⟨p, 0, none⟩ = some (.string e.key) ∧ w'.cell? ⟨p, 1, none⟩ = some (.int .i64 e.no)) w5 := ⟨hx5.cell I0.1, hx5.cell I0.2.1, hx5.cell I0.2.2.1, hx5.cell I0.2.2.2⟩
        have hx6 := hid (hx.out.drew_right.trans hx5)
        clear hx5
        refine hK _ _ ⟨fun _ => I5, ?_⟩
        clear hK K
        try simp only [Act.put, lyA, lyB, lyC, lyD, lyE, lyF]
        refine JO 12 (v := ?ve12) I5 ?ye12 ?re12
        case ye12 => (intro w h; obtain ⟨_, _, _, _⟩ := h; go_simp; with_reducible rfl)
        simp only [Act.put, lyA, lyB, lyC, lyD, lyE, lyF]
        refine JO 13 (v := ?ve13) I5 ?ye13 ?re13
        case ye13 => (intro w h; obtain ⟨_, _, _, _⟩ := h; go_simp; with_reducible rfl)
        simp only [Act.put, lyA, lyB, lyC, lyD, lyE, lyF]
        refine JO 14 (v := ?ve14) I5 ?ye14 ?re14
        case ye14 => (intro w h; obtain ⟨_, _, _, _⟩ := h; go_simp; with_reducible rfl)
        simp only [Act.put, lyA, lyB, lyC, lyD, lyE, lyF]
        refine J_one 15 rfl (by kernel_rfl) (fun K hK => ?_)
        go_simp
        refine hK _ _ ⟨fun _ => I5, ?_⟩
        clear hK K
        try simp only [Act.put, lyD, lyE, lyF]
        refine J_done (by kernel_rfl) (OnlyOn.normal ?_)
        have hx7 := hid (hxa.out.trans hx6.out)
        generalize cmpT x e = z at *
        go_wp2
        go_ret2
        exact ⟨by rw [hr.out, hma.out]; rfl, hx7.out⟩
      · have hd : decide (hi < l.length) = false := by simp; omega
        rw [hd, Bool.false_and] at hma
        have hmn : ¬ (hi : Int) < (n : Int) := by omega
        clear hd
        go_upto_region 8 with fail
        go_quiet (fail)
        have hx7 := hid (hxa.out.trans (hx.out.drewN_right nq))
        go_wp2
        go_ret2
        exact ⟨by rw [hr.out, hma.out]; rfl, hx7.out⟩
open Go.RowKit Go.Shelf
def one1 (b a : Nat) : Nat := if a = b then 1 else 0
def ob (v : Value) (a : Nat) : Nat := if v.ownBlock = some a then 1 else 0
def ptrs (ps : List Nat) : List Value := ps.map (fun p => .pointer (some ⟨p, 0, none⟩))
theorem ptrs_len (ps : List Nat) : (ptrs ps).length = ps.length := by simp [ptrs]
theorem ptrs_append (a b : List Nat) : ptrs (a ++ b) = ptrs a ++ ptrs b := by simp [ptrs]
theorem ptrs_one (ps : List Nat) : ∀ u ∈ ptrs ps, u.oneCell' = true := by
  intro u h
  obtain ⟨p, _, rfl⟩ := List.mem_map.1 h
  rfl
def Ks (R : Nat → BT → (Nat → Nat) → Prop) : List Nat → List BT → (Nat → Nat) → Prop
  | [], [], f => ∀ a, f a = 0
  | p :: ps, T :: ks, f => ∃ f1 f2, R p T f1 ∧ Ks R ps ks f2 ∧ ∀ a, f a = f1 a + f2 a
  | _, _, _ => False
def TN (w : World) : Nat → Nat → BT → (Nat → Nat) → Prop
  | 0, p, .nd l ks, f => ks = [] ∧ ∃ lv kv, w.heap[p]? = some (.cells #[lv, kv] 48 (0, 0)) ∧ w.ownsRow 0 65 2 lv l.length (tents l) ∧ w.ownsRow 0 44 1 kv 0 (ptrs []) ∧ ∀ a, f a = one1 p a + ob lv a + ob kv a
  | h + 1, p, .nd l ks, f => ∃ lv kv ps g, w.heap[p]? = some (.cells #[lv, kv] 48 (0, 0)) ∧ w.ownsRow 0 65 2 lv l.length (tents l) ∧ w.ownsRow 0 44 1 kv ps.length (ptrs ps) ∧ Ks (TN w h) ps ks g ∧ ∀ a, f a = one1 p a + ob lv a + ob kv a + g a
def FR (f : Nat → Nat) (w w' : World) : Prop := w.os = w'.os ∧ w.tape = w'.tape ∧ w.output = w'.output ∧ w.heap.size ≤ w'.heap.size ∧ ∀ k, k < w.heap.size → f k = 0 → w'.heap[k]? = w.heap[k]?
theorem FR.of_ext {f : Nat → Nat} {w w' : World} (h : Ext w w') : FR f w w' := ⟨h.os.symm, h.tape.symm, h.output.symm, h.size, fun k hk _ => h.block hk⟩
theorem FR.trans {f f' : Nat → Nat} {w w' w2 : World} (h : FR f w w') (h2 : FR f' w' w2) (hs : ∀ k, k < w.heap.size → f k = 0 → f' k = 0) : FR f w w2 :=
  ⟨h.1.trans h2.1, h.2.1.trans h2.2.1, h.2.2.1.trans h2.2.2.1, Nat.le_trans h.2.2.2.1 h2.2.2.2.1, fun k hk h0 => (h2.2.2.2.2 k (Nat.lt_of_lt_of_le hk h.2.2.2.1) (hs k hk h0)).trans (h.2.2.2.2 k hk h0)⟩
theorem FR.mono {f f' : Nat → Nat} {w w' : World} (h : FR f w w') (hs : ∀ k, k < w.heap.size → f' k = 0 → f k = 0) : FR f' w w' := ⟨h.1, h.2.1, h.2.2.1, h.2.2.2.1, fun k hk h0 => h.2.2.2.2 k hk (hs k hk h0)⟩
theorem FR.own {f : Nat → Nat} {w w' : World} {b sz n : Nat} {t : TypeId} {v : Value} {xs : List Value} (h : FR f w w') (ho : w.ownsRow b t sz v n xs) (hv : ∀ k, v.ownBlock = some k → f k = 0) : w'.ownsRow b t sz v n xs := by
  refine ⟨ho.1, ?_⟩
  rcases ho.2 with h2 | ⟨g', cap, cur, rfl, e2, e3, e4⟩
  · exact .inl h2
  · exact .inr ⟨g', cap, cur, rfl, e2, (h.2.2.2.2 g' (Array.getElem?_eq_some_iff.1 e3).1 (hv g' rfl)).trans e3, e4⟩
theorem ob_some {v : Value} {k : Nat} (h : v.ownBlock = some k) : ob v k = 1 := if_pos h
theorem one_self (p : Nat) : one1 p p = 1 := if_pos rfl
theorem ob_zero {v : Value} {k : Nat} (h : ob v k = 0) : v.ownBlock ≠ some k := fun e => by rw [ob_some e] at h; cases h
theorem Ks.frame {R R' : Nat → BT → (Nat → Nat) → Prop} {f : Nat → Nat} (hR : ∀ p T g, R p T g → (∀ a, 0 < g a → f a = 0) → R' p T g) : ∀ {ps : List Nat} {ks : List BT} {g : Nat → Nat}, Ks R ps ks g → (∀ a, 0 < g a → f a = 0) → Ks R' ps ks g
  | [], [], g, h, _ => h
  | p :: ps, T :: ks, g, ⟨f1, f2, h1, h2, h3⟩, hg => ⟨f1, f2, hR _ _ _ h1 (fun a ha => hg a (by rw [h3 a]; omega)), Ks.frame hR h2 (fun a ha => hg a (by rw [h3 a]; omega)), h3⟩
  | [], _ :: _, g, h, _ => h.elim
  | _ :: _, [], g, h, _ => h.elim
theorem TN.frame {w w' : World} {f : Nat → Nat} (hF : FR f w w') : ∀ {h : Nat} {p : Nat} {T : BT} {g : Nat → Nat}, TN w h p T g → (∀ a, 0 < g a → f a = 0) → TN w' h p T g
  | 0, p, .nd l ks, g, ⟨hk, lv, kv, e1, e2, e3, e4⟩, hg => ⟨hk, lv, kv, (hF.2.2.2.2 p (Array.getElem?_eq_some_iff.1 e1).1 (hg p (by rw [e4 p, one_self]; omega))).trans e1,
      hF.own e2 (fun k e => hg k (by rw [e4 k, ob_some e]; omega)), hF.own e3 (fun k e => hg k (by rw [e4 k, ob_some e]; omega)), e4⟩
  | h + 1, p, .nd l ks, g, ⟨lv, kv, ps, g1, e1, e2, e3, e5, e4⟩, hg => ⟨lv, kv, ps, g1, (hF.2.2.2.2 p (Array.getElem?_eq_some_iff.1 e1).1 (hg p (by rw [e4 p, one_self]; omega))).trans e1,
      hF.own e2 (fun k e => hg k (by rw [e4 k, ob_some e]; omega)), hF.own e3 (fun k e => hg k (by rw [e4 k, ob_some e]; omega)), Ks.frame (fun p T g h1 h2 => TN.frame hF h1 h2) e5 (fun a ha => hg a (by rw [e4 a]; omega)), e4⟩
theorem TN.ext {w w' : World} {h p : Nat} {T : BT} {g : Nat → Nat} (h1 : TN w h p T g) (hx : Ext w w') : TN w' h p T g := h1.frame (f := fun _ => 0) (FR.of_ext hx) (fun _ _ => rfl)
theorem Ks.len {R : Nat → BT → (Nat → Nat) → Prop} : ∀ {ps : List Nat} {ks : List BT} {g : Nat → Nat}, Ks R ps ks g → ps.length = ks.length
  | [], [], _, _ => rfl
  | _ :: ps, _ :: ks, g, ⟨_, _, _, h, _⟩ => by simp [h.len]
  | [], _ :: _, _, h => h.elim
  | _ :: _, [], _, h => h.elim
theorem Ks.cut {R : Nat → BT → (Nat → Nat) → Prop} : ∀ {i : Nat} {ps : List Nat} {ks : List BT} {g : Nat → Nat} {K : BT}, Ks R ps ks g → ks[i]? = some K → ∃ q g0 g1 g2, ps[i]? = some q ∧ R q K g1 ∧ Ks R (ps.take i) (ks.take i) g0 ∧ Ks R (ps.drop (i + 1)) (ks.drop (i + 1)) g2 ∧ ∀ a, g a = g0 a + g1 a + g2 a
  | 0, p :: ps, T :: ks, g, K, ⟨f1, f2, h1, h2, h3⟩, hK => by
    obtain rfl := Option.some.inj hK
    exact ⟨p, fun _ => 0, f1, f2, rfl, h1, fun _ => rfl, h2, fun a => by show g a = 0 + f1 a + f2 a; rw [h3 a]; omega⟩
  | i + 1, p :: ps, T :: ks, g, K, ⟨f1, f2, h1, h2, h3⟩, hK => by
    obtain ⟨q, g0, g1, g2, e1, e2, e3, e4, e5⟩ := Ks.cut h2 (i := i) (K := K) hK
    exact ⟨q, fun a => f1 a + g0 a, g1, g2, e1, e2, ⟨f1, g0, h1, e3, fun _ => rfl⟩, e4, fun a => by show g a = (f1 a + g0 a) + g1 a + g2 a; rw [h3 a, e5 a]; omega⟩
  | _, [], [], _, _, _, hK => by cases hK
  | _, [], _ :: _, _, _, h, _ => h.elim
  | _, _ :: _, [], _, _, h, _ => h.elim
theorem Ks.app {R : Nat → BT → (Nat → Nat) → Prop} : ∀ {ps qs : List Nat} {ks ms : List BT} {f g : Nat → Nat}, Ks R ps ks f → Ks R qs ms g → Ks R (ps ++ qs) (ks ++ ms) (fun a => f a + g a)
  | [], qs, [], ms, f, g, h, h2 => by
    have : (fun a => f a + g a) = g := by funext a; rw [h a]; omega
    rw [this]
    exact h2
  | p :: ps, qs, T :: ks, ms, f, g, ⟨f1, f2, h1, h3, h4⟩, h2 => ⟨f1, _, h1, h3.app h2, fun a => by show f a + g a = f1 a + (f2 a + g a); rw [h4 a]; omega⟩
  | [], _, _ :: _, _, _, _, h, _ => h.elim
  | _ :: _, _, [], _, _, _, h, _ => h.elim
theorem Ks.same {R : Nat → BT → (Nat → Nat) → Prop} {ps : List Nat} {ks : List BT} {f g : Nat → Nat} (h : Ks R ps ks f) (e : ∀ a, g a = f a) : Ks R ps ks g := by
  have : g = f := funext e
  rw [this]
  exact h
theorem TN.cells {w : World} {h p : Nat} {l : List Te} {ks : List BT} {f : Nat → Nat} (hT : TN w h p (.nd l ks) f) : ∃ A c kA kn kc, w.cell? ⟨p, 0, none⟩ = some (.slice A l.length c) ∧ w.cell? ⟨p, 1, none⟩ = some (.slice kA kn kc) ∧ RdN w A l.length c l ∧ (h = 0 → kn = 0) := by
  cases h with
  | zero =>
    obtain ⟨hk, lv, kv, e1, e2, e3, e4⟩ := hT
    obtain ⟨A, c, rfl, hr⟩ := own_rd e2
    obtain ⟨kA, kc, rfl, _⟩ := own_rd e3
    exact ⟨A, c, kA, 0, kc, by rw [Lib.cell_of_heap e1]; rfl, by rw [Lib.cell_of_heap e1]; rfl, hr, fun _ => rfl⟩
  | succ h =>
    obtain ⟨lv, kv, ps, g, e1, e2, e3, e5, e4⟩ := hT
    obtain ⟨A, c, rfl, hr⟩ := own_rd e2
    obtain ⟨kA, kc, rfl, _⟩ := own_rd e3
    exact ⟨A, c, kA, ps.length, kc, by rw [Lib.cell_of_heap e1]; rfl, by rw [Lib.cell_of_heap e1]; rfl, hr, fun h => by cases h⟩
theorem place_any (p : Nat) (A : Option Addr) (n c : Nat) (l : List Te) (e : Te) (w : World) (hp : w.cell? ⟨p, 0, none⟩ = some (.slice A n c)) (hl : RdN w A n c l) (hS : Srt l) (hn : n ≤ 1000000) : Calls Tryz.prog 50 #[.pointer (some ⟨p, 0, none⟩), .agg #[.string e.key, .int .i64 e.no]] w (Give (.tuple #[.int .i64 (rankT l e), .bool (memT l e)]) w) := by
  have ha := heap_alloc_new w (.cells #[.string e.key, .int .i64 e.no] 65)
  have hx1 := hid ((Ext.refl w).alloc_right (.cells #[.string e.key, .int .i64 e.no] 65))
  have z0 : (w.alloc (.cells #[.string e.key, .int .i64 e.no] 65)).cell? ⟨w.heap.size, 0, none⟩ = some (.string e.key) := by rw [Lib.cell_of_heap ha]; rfl
  have z1 : (w.alloc (.cells #[.string e.key, .int .i64 e.no] 65)).cell? ⟨w.heap.size, 1, none⟩ = some (.int .i64 e.no) := by rw [Lib.cell_of_heap ha]; rfl
  have zp := hx1.out.cell hp
  have lp := World.block_lt_of_cell? _ _ zp
  dsimp only at lp
  replace hl := hid hl
  replace hS := hid hS
  clear ha hp
  generalize hRk : rankT l e = rk at *
  generalize hMm : memT l e = mm at *
  replace hRk := hid hRk
  replace hMm := hid hMm
  go_enter Tryz.func50, Tryz.ntmps50
  go_upto_region 1 with fail
  generalize w.alloc (.cells #[.string e.key, .int .i64 e.no] 65) = w1 at *
  generalize w.heap.size = b at *
  have I0 : (fun w' : World => w'.cell? ⟨p, 0, none⟩ = some (.slice A n c) ∧ w'.cell? ⟨b, 0, none⟩ = some (.string e.key) ∧ w'.cell? ⟨b, 1, none⟩ = some (.int .i64 e.no)) w1.drew := ⟨zp, z0, z1⟩
  replace hx1 := hid (hx1.out.drew_right)
  refine region_J (fun w' : World => w'.cell? ⟨p, 0, none⟩ = some (.slice A n c) ∧ w'.cell? ⟨b, 0, none⟩ = some (.string e.key) ∧ w'.cell? ⟨b, 1, none⟩ = some (.int .i64 e.no)) 10 (by kernel_rfl) ?_
  clear zp z0 z1
  generalize w1.drew = w2 at *
  refine JO 0 (v := ?vc0) I0 ?yc0 ?rc0
  case yc0 => (intro w h; obtain ⟨_, _, _⟩ := h; go_simp; with_reducible rfl)
  simp only [Act.put, lyA, lyB, lyC, lyD, lyE, lyF]
  refine JO 1 (v := ?vc1) I0 ?yc1 ?rc1
  case yc1 => (intro w h; obtain ⟨_, _, _⟩ := h; go_simp; with_reducible rfl)
  simp only [Act.put, lyA, lyB, lyC, lyD, lyE, lyF]
  refine JO 2 (v := ?vc2) I0 ?yc2 ?rc2
  case yc2 => (intro w h; obtain ⟨_, _, _⟩ := h; go_simp; with_reducible rfl)
  simp only [Act.put, lyA, lyB, lyC, lyD, lyE, lyF]
  refine JO 3 (v := ?vc3) I0 ?yc3 ?rc3
  case yc3 => (intro w h; obtain ⟨_, _, _⟩ := h; go_simp; with_reducible rfl)
  simp only [Act.put, lyA, lyB, lyC, lyD, lyE, lyF]
  refine JO 4 (v := ?vc4) I0 ?yc4 ?rc4
  case yc4 => (intro w h; obtain ⟨_, _, _⟩ := h; go_simp; with_reducible rfl)
  simp only [Act.put, lyA, lyB, lyC, lyD, lyE, lyF]
  refine J_one 5 rfl (by kernel_rfl) (fun K hK => ?_)
  go_simp
  refine (bsearch_any A n c l e _ (hl.out.ext hx1.out) hS.out hn).mono ?_
  rintro e' w5 ⟨rfl, hx5⟩
  have I5 : (fun w' : World => w'.cell? ⟨p, 0, none⟩ = some (.slice A n c) ∧ w'.cell? ⟨b, 0, none⟩ = some (.string e.key) ∧ w'.cell? ⟨b, 1, none⟩ = some (.int .i64 e.no)) w5 := ⟨hx5.cell I0.1, hx5.cell I0.2.1, hx5.cell I0.2.2⟩
  have hx6 := hid (hx1.out.trans hx5)
  clear hx5
  refine hK _ _ ⟨fun _ => I5, ?_⟩
  clear hK K
  try simp only [Act.put, lyA, lyB, lyC, lyD, lyE, lyF]
  refine JO 6 (v := ?vd6) I5 ?yd6 ?rd6
  case yd6 => (intro w h; obtain ⟨_, _, _⟩ := h; go_simp; with_reducible rfl)
  simp only [Act.put, lyA, lyB, lyC, lyD, lyE, lyF]
  refine JO 7 (v := ?vd7) I5 ?yd7 ?rd7
  case yd7 => (intro w h; obtain ⟨_, _, _⟩ := h; go_simp; with_reducible rfl)
  simp only [Act.put, lyA, lyB, lyC, lyD, lyE, lyF]
  refine JO 8 (v := ?vd8) I5 ?yd8 ?rd8
  case yd8 => (intro w h; obtain ⟨_, _, _⟩ := h; go_simp; with_reducible rfl)
  simp only [Act.put, lyA, lyB, lyC, lyD, lyE, lyF]
  refine J_one 9 rfl (by kernel_rfl) (fun K hK => ?_)
  go_simp
  refine hK _ _ ⟨fun _ => I5, ?_⟩
  clear hK K
  try simp only [Act.put, lyD, lyE, lyF]
  refine J_done (by kernel_rfl) (OnlyOn.normal ?_)
  go_wp2
  go_ret2
  exact ⟨by rw [hRk.out, hMm.out]; rfl, hx6.out⟩
theorem has_any : ∀ (h p : Nat) (T : BT) (f : Nat → Nat) (w : World) (e : Te), TN w h p T f → Shp h T → Srt (flat h T) → T.l.length ≤ 5 → Calls Tryz.prog 22 #[.pointer (some ⟨p, 0, none⟩), .agg #[.string e.key, .int .i64 e.no]] w (Give (.bool (memT (flat h T) e)) w) := by
  intro h
  induction h with
  | zero =>
    intro p T f w e hT hs hS hl
    obtain ⟨l, ks⟩ := T
    obtain ⟨A, c, kA, kn, kc, cp0, cp1, hr, hk0⟩ := hT.cells
    obtain rfl := hk0 rfl
    have hl5 : l.length ≤ 5 := hl
    have hSl : Srt l := hS
    have hml := Rd.max hr
    show Calls Tryz.prog _ _ w (Give (.bool (memT l e)) w)
    have ha := heap_alloc_new w (.cells #[.string e.key, .int .i64 e.no] 65)
    have hx1 := hid ((Ext.refl w).alloc_right (.cells #[.string e.key, .int .i64 e.no] 65))
    have z0 : (w.alloc (.cells #[.string e.key, .int .i64 e.no] 65)).cell? ⟨w.heap.size, 0, none⟩ = some (.string e.key) := by rw [Lib.cell_of_heap ha]; rfl
    have z1 : (w.alloc (.cells #[.string e.key, .int .i64 e.no] 65)).cell? ⟨w.heap.size, 1, none⟩ = some (.int .i64 e.no) := by rw [Lib.cell_of_heap ha]; rfl
    have zp := hx1.out.cell cp0
    have zk := hx1.out.cell cp1
    have lp := World.block_lt_of_cell? _ _ zp
    dsimp only at lp
    have hP := hid (place_any p A l.length c l e _ zp (hr.ext hx1.out) hSl (by omega))
    clear ha cp0 cp1
    go_enter Tryz.func22, Tryz.ntmps22
    go_upto_region 1 with fail
    generalize w.alloc (.cells #[.string e.key, .int .i64 e.no] 65) = w1 at *
    generalize w.heap.size = b at *
    generalize rankT l e = i at *
    generalize memT l e = mm at *
    go_wp2_with fail
    refine hP.out.mono ?_
    rintro e' w2 ⟨rfl, hx2⟩
    replace zp := hx2.cell zp
    replace zk := hx2.cell zk
    replace z0 := hx2.cell z0
    replace z1 := hx2.cell z1
    replace hx1 := hid (hx1.out.trans hx2)
    clear hx2 hP
    have lp2 := World.block_lt_of_cell? _ _ zp
    dsimp only at lp2
    clear hT hs hS hl
    cases mm with
    | true =>
      go_upto_region 2 with fail
      go_quiet (fail)
      go_wp2
      go_ret
      exact ⟨rfl, hx1.out.drewN_right _⟩
    | false =>
      go_upto_region 2 with fail
      go_quiet (fail)
      go_wp2
      go_ret
      exact ⟨rfl, hx1.out.drewN_right _⟩
  | succ h ih =>
    intro p T f w e hT hs hS hl
    obtain ⟨l, ks⟩ := T
    obtain ⟨hSl, K, hKi, -, -, -, hSK⟩ := node_lt hs hS e
    obtain ⟨K', hKi', hmm⟩ := mem_node hs hS e
    obtain rfl := Option.some.inj (hKi.symm.trans hKi')
    have hmK : K ∈ ks := List.mem_of_getElem? hKi
    obtain ⟨k1, k2, k3⟩ := hs.2 K hmK
    obtain ⟨lv, kv, ps, g, e1, e2, e3, e5, e4⟩ := hT
    obtain ⟨A, c, rfl, hr⟩ := own_rd e2
    obtain ⟨kA, kc, rfl, hkr⟩ := own_rd e3
    have cp0 : w.cell? ⟨p, 0, none⟩ = some (.slice A l.length c) := by rw [Lib.cell_of_heap e1]; rfl
    have cp1 : w.cell? ⟨p, 1, none⟩ = some (.slice kA ps.length kc) := by rw [Lib.cell_of_heap e1]; rfl
    obtain ⟨q, g0, g1, g2, hpi, hKq, -, -, -⟩ := e5.cut hKi
    have hil : rankT l e < ps.length := (List.getElem?_eq_some_iff.1 hpi).1
    obtain ⟨ad, rfl, hcc⟩ := hkr.2.2.2 (by omega)
    have cq : w.cell? (ad.add (rankT l e)) = some (.pointer (some ⟨q, 0, none⟩)) := hcc _ _ (by unfold ptrs; rw [List.getElem?_map, hpi]; rfl)
    have hkm := Rd.max hkr
    have hl5 : l.length ≤ 5 := hl
    have hml := Rd.max hr
    rw [hmm]
    have hK := hid hKq
    have hsK := hid k3
    have hSK' := hid hSK
    have hlK : Hid (K.l.length ≤ 5) := by unfold Hid; omega
    have ih' := hid (fun w' (hx : Ext w w') => ih q K g1 w' e (hKq.ext hx) hsK.out hSK'.out hlK.out)
    generalize memT (flat h K) e = mk at *
    clear hmm hkr hcc hpi hKi hKi' hmK k1 k2 k3 hSK e1 e2 e3 e5 e4 hs hS hl hKq
    have ha := heap_alloc_new w (.cells #[.string e.key, .int .i64 e.no] 65)
    have hx1 := hid ((Ext.refl w).alloc_right (.cells #[.string e.key, .int .i64 e.no] 65))
    have z0 : (w.alloc (.cells #[.string e.key, .int .i64 e.no] 65)).cell? ⟨w.heap.size, 0, none⟩ = some (.string e.key) := by rw [Lib.cell_of_heap ha]; rfl
    have z1 : (w.alloc (.cells #[.string e.key, .int .i64 e.no] 65)).cell? ⟨w.heap.size, 1, none⟩ = some (.int .i64 e.no) := by rw [Lib.cell_of_heap ha]; rfl
    have zp := hx1.out.cell cp0
    have zk := hx1.out.cell cp1
    have lp := World.block_lt_of_cell? _ _ zp
    dsimp only at lp
    have hP := hid (place_any p A l.length c l e _ zp (hr.ext hx1.out) hSl (by omega))
    clear ha cp0 cp1
    go_enter Tryz.func22, Tryz.ntmps22
    go_upto_region 1 with fail
    generalize w.alloc (.cells #[.string e.key, .int .i64 e.no] 65) = w1 at *
    generalize w.heap.size = b at *
    generalize rankT l e = i at *
    generalize memT l e = mm at *
    go_wp2_with fail
    refine hP.out.mono ?_
    rintro e' w2 ⟨rfl, hx2⟩
    replace zp := hx2.cell zp
    replace zk := hx2.cell zk
    replace z0 := hx2.cell z0
    replace z1 := hx2.cell z1
    replace hx1 := hid (hx1.out.trans hx2)
    clear hx2 hP
    have lp2 := World.block_lt_of_cell? _ _ zp
    dsimp only at lp2
    replace cq := hx1.out.cell cq
    generalize ps.length = kn at *
    cases mm with
    | true =>
      go_upto_region 2 with fail
      go_quiet (fail)
      go_wp2
      go_ret
      exact ⟨rfl, hx1.out.drewN_right _⟩
    | false =>
      have hki : (i : Int) < (kn : Int) := by omega
      have hk0 : 0 < kn := by omega
      go_upto_region 2 with fail
      have I0 : (fun w' : World => w'.cell? ⟨p, 1, none⟩ = some (.slice (some ad) kn kc) ∧ w'.cell? (ad.add i) = some (.pointer (some ⟨q, 0, none⟩)) ∧ w'.cell? ⟨b, 0, none⟩ = some (.string e.key) ∧ w'.cell? ⟨b, 1, none⟩ = some (.int .i64 e.no)) w2.drew := ⟨zk, cq, z0, z1⟩
      have hx3 := hid (hx1.out.drew_right)
      refine region_J (fun w' : World => w'.cell? ⟨p, 1, none⟩ = some (.slice (some ad) kn kc) ∧ w'.cell? (ad.add i) = some (.pointer (some ⟨q, 0, none⟩)) ∧ w'.cell? ⟨b, 0, none⟩ = some (.string e.key) ∧ w'.cell? ⟨b, 1, none⟩ = some (.int .i64 e.no)) 21 (by kernel_rfl) ?_
      clear zp zk z0 z1 cq hx1
      generalize w2.drew = w3 at *
      refine JO 0 (v := ?vc0) I0 ?yc0 ?rc0
      case yc0 => (intro w h; obtain ⟨_, _, _, _⟩ := h; go_simp; with_reducible rfl)
      simp only [Act.put, lyA, lyB, lyC, lyD, lyE, lyF]
      refine JO 1 (v := ?vc1) I0 ?yc1 ?rc1
      case yc1 => (intro w h; obtain ⟨_, _, _, _⟩ := h; go_simp; with_reducible rfl)
      simp only [Act.put, lyA, lyB, lyC, lyD, lyE, lyF]
      refine JO 2 (v := ?vc2) I0 ?yc2 ?rc2
      case yc2 => (intro w h; obtain ⟨_, _, _, _⟩ := h; go_simp; with_reducible rfl)
      simp only [Act.put, lyA, lyB, lyC, lyD, lyE, lyF]
      refine JO 3 (v := ?vc3) I0 ?yc3 ?rc3
      case yc3 => (intro w h; obtain ⟨_, _, _, _⟩ := h; go_simp; with_reducible rfl)
      simp only [Act.put, lyA, lyB, lyC, lyD, lyE, lyF]
      refine JO 4 (v := ?vc4) I0 ?yc4 ?rc4
      case yc4 => (intro w h; obtain ⟨_, _, _, _⟩ := h; go_simp; with_reducible rfl)
      simp only [Act.put, lyA, lyB, lyC, lyD, lyE, lyF]
      refine JO 5 (v := ?vc5) I0 ?yc5 ?rc5
      case yc5 => (intro w h; obtain ⟨_, _, _, _⟩ := h; go_simp; with_reducible rfl)
      simp only [Act.put, lyA, lyB, lyC, lyD, lyE, lyF]
      refine JO 6 (v := ?vc6) I0 ?yc6 ?rc6
      case yc6 => (intro w h; obtain ⟨_, _, _, _⟩ := h; go_simp; with_reducible rfl)
      simp only [Act.put, lyA, lyB, lyC, lyD, lyE, lyF]
      refine JO 7 (v := ?vc7) I0 ?yc7 ?rc7
      case yc7 => (intro w h; obtain ⟨_, _, _, _⟩ := h; go_simp; with_reducible rfl)
      simp only [Act.put, lyA, lyB, lyC, lyD, lyE, lyF]
      refine JO 8 (v := ?vc8) I0 ?yc8 ?rc8
      case yc8 => (intro w h; obtain ⟨_, _, _, _⟩ := h; go_simp; with_reducible rfl)
      simp only [Act.put, lyA, lyB, lyC, lyD, lyE, lyF]
      refine JO 9 (v := ?vc9) I0 ?yc9 ?rc9
      case yc9 => (intro w h; obtain ⟨_, _, _, _⟩ := h; go_simp; with_reducible rfl)
      simp only [Act.put, lyA, lyB, lyC, lyD, lyE, lyF]
      refine JO 10 (v := ?vc10) I0 ?yc10 ?rc10
      case yc10 => (intro w h; obtain ⟨_, _, _, _⟩ := h; go_simp; with_reducible rfl)
      simp only [Act.put, lyA, lyB, lyC, lyD, lyE, lyF]
      refine JO 11 (v := ?vc11) I0 ?yc11 ?rc11
      case yc11 => (intro w h; obtain ⟨_, _, _, _⟩ := h; go_simp; with_reducible rfl)
      simp only [Act.put, lyA, lyB, lyC, lyD, lyE, lyF]
      refine JO 12 (v := ?vc12) I0 ?yc12 ?rc12
      case yc12 => (intro w h; obtain ⟨_, _, _, _⟩ := h; go_simp; with_reducible rfl)
      simp only [Act.put, lyA, lyB, lyC, lyD, lyE, lyF]
      refine JO 13 (v := ?vc13) I0 ?yc13 ?rc13
      case yc13 => (intro w h; obtain ⟨_, _, _, _⟩ := h; go_simp; with_reducible rfl)
      simp only [Act.put, lyA, lyB, lyC, lyD, lyE, lyF]
      refine JO 14 (v := ?vc14) I0 ?yc14 ?rc14
      case yc14 => (intro w h; obtain ⟨_, _, _, _⟩ := h; go_simp; with_reducible rfl)
      simp only [Act.put, lyA, lyB, lyC, lyD, lyE, lyF]
      refine JO 15 (v := ?vc15) I0 ?yc15 ?rc15
      case yc15 => (intro w h; obtain ⟨_, _, _, _⟩ := h; go_simp; with_reducible rfl)
      simp only [Act.put, lyA, lyB, lyC, lyD, lyE, lyF]
      refine JO 16 (v := ?vc16) I0 ?yc16 ?rc16
      case yc16 => (intro w h; obtain ⟨_, _, _, _⟩ := h; go_simp; with_reducible rfl)
      simp only [Act.put, lyA, lyB, lyC, lyD, lyE, lyF]
      refine J_one 17 rfl (by kernel_rfl) (fun K hK => ?_)
      go_simp
      refine (ih'.out _ hx3.out).mono ?_
      rintro e' w5 ⟨rfl, hx5⟩
      have I5 : (fun w' : World => w'.cell? ⟨p, 1, none⟩ = some (.slice (some ad) kn kc) ∧ w'.cell? (ad.add i) = some (.pointer (some ⟨q, 0, none⟩)) ∧ w'.cell? ⟨b, 0, none⟩ = some (.string e.key) ∧ w'.cell? ⟨b, 1, none⟩ = some (.int .i64 e.no)) w5 := ⟨hx5.cell I0.1, hx5.cell I0.2.1, hx5.cell I0.2.2.1, hx5.cell I0.2.2.2⟩
      have hx6 := hid (hx3.out.trans hx5)
      clear hx5
      refine hK _ _ ⟨fun _ => I5, ?_⟩
      clear hK K
      try simp only [Act.put, lyA, lyB, lyC, lyD, lyE, lyF]
      refine JO 18 (v := ?vd18) I5 ?yd18 ?rd18
      case yd18 => (intro w h; obtain ⟨_, _, _, _⟩ := h; go_simp; with_reducible rfl)
      simp only [Act.put, lyA, lyB, lyC, lyD, lyE, lyF]
      refine JO 19 (v := ?vd19) I5 ?yd19 ?rd19
      case yd19 => (intro w h; obtain ⟨_, _, _, _⟩ := h; go_simp; with_reducible rfl)
      simp only [Act.put, lyA, lyB, lyC, lyD, lyE, lyF]
      refine J_one 20 rfl (by kernel_rfl) (fun K hK => ?_)
      go_simp
      refine hK _ _ ⟨fun _ => I5, ?_⟩
      clear hK K
      try simp only [Act.put, lyD, lyE, lyF]
      refine J_done (by kernel_rfl) (OnlyOn.normal ?_)
      go_wp2
      go_ret
      exact ⟨rfl, hx6.out⟩
end Go.Proofs.YtjjikkhhlpikbaaGreatDoor
