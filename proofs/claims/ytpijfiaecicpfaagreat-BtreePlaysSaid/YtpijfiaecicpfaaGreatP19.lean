/-
  Acts of scripts in memory; An index and the reference's tree side by side; found; One act with both trees; The law of scripts played on both trees; Whether a script is over; slices.Equal of entries; whether two indexes are the same.
-/
import Derived.Test.YtpijfiaecicpfaaGreatP11
import Derived.Laws.StructEq
import Derived.Test.YtpijfiaecicpfaaGreatP1
import Derived.Test.YtpijfiaecicpfaaGreatP15
import Derived.Test.YtpijfiaecicpfaaGreatP18
import Derived.Test.YtpijfiaecicpfaaGreatP10
namespace Go.Proofs.YtpijfiaecicpfaaGreat
open Go.RowKit Go.Shelf
set_option linter.unusedVariables false
set_option linter.unusedSimpArgs false
end Go.Proofs.YtpijfiaecicpfaaGreat

namespace Go.Proofs.YtpijfiaecicpfaaGreat
open Go.RowKit Go.Shelf
set_option linter.unusedVariables false
set_option linter.unusedSimpArgs false
/-- An act of a script. -/
structure Ac where
  op : Int
  a : Int
  b : Int
  c : Int
  s : ByteArray
  t : ByteArray
def acells (x : Ac) : List Value := [.int .i64 x.op, .int .i64 x.a, .int .i64 x.b, .int .i64 x.c, .string x.s, .string x.t]
def acs : List Ac → List Value
  | [] => []
  | x :: l => acells x ++ acs l
theorem acs_len : ∀ l : List Ac, (acs l).length = l.length * 6
  | [] => rfl
  | x :: l => by rw [acs, List.length_append, acs_len l, List.length_cons]; simp [acells]; omega
theorem acs_at : ∀ (l : List Ac) (k : Nat) (h : k < l.length) (j : Nat), j < 6 → (acs l)[k * 6 + j]? = (acells l[k])[j]?
  | x :: l, 0, h, j, hj => by
    rw [acs, List.getElem?_append_left (by simp [acells]; omega)]
    simp
  | x :: l, k + 1, h, j, hj => by
    have := acs_at l k (by simpa using h) j hj
    rw [acs, List.getElem?_append_right (by simp [acells]; omega), List.getElem_cons_succ, ← this]
    congr 1
    simp [acells]
    omega
/-- How long an act's texts are. -/
def okA (x : Ac) : Prop := x.s.size ≤ maxLen ∧ x.t.size ≤ maxLen
/-- A slice of acts. -/
def RdA (w : World) (A : Option Addr) (n c : Nat) (l : List Ac) : Prop := Rd w 6 A n c (acs l) ∧ ∀ x ∈ l, okA x
theorem RdA.len {w : World} {A : Option Addr} {n c : Nat} {l : List Ac} (h : RdA w A n c l) : l.length = n := by have := h.1.1; rw [acs_len] at this; omega
theorem RdA.ext {w w' : World} {A : Option Addr} {n c : Nat} {l : List Ac} (h : RdA w A n c l) (hb : Ext w w') : RdA w' A n c l := ⟨Rd.ext h.1 hb, h.2⟩
def ath (l : List Ac) (k : Nat) : Ac := l.getD k ⟨0, 0, 0, 0, ⟨#[]⟩, ⟨#[]⟩⟩
theorem ath_get {l : List Ac} {k : Nat} (h : k < l.length) : ath l k = l[k] := by simp [ath, List.getD, h]
theorem RdA.at_ {w : World} {A : Option Addr} {n c : Nat} {l : List Ac} (h : RdA w A n c l) {k : Nat} (hk : k < n) : ∃ ad, A = some ad ∧ w.cell? (ad.add (k * 6)) = some (.int .i64 (ath l k).op) ∧ w.cell? ⟨(ad.add (k * 6)).block, (ad.add (k * 6)).off + 1, none⟩ = some (.int .i64 (ath l k).a) ∧ w.cell? ⟨(ad.add (k * 6)).block, (ad.add (k * 6)).off + 2, none⟩ = some (.int .i64 (ath l k).b) ∧
    w.cell? ⟨(ad.add (k * 6)).block, (ad.add (k * 6)).off + 4, none⟩ = some (.string (ath l k).s) ∧ w.cell? ⟨(ad.add (k * 6)).block, (ad.add (k * 6)).off + 5, none⟩ = some (.string (ath l k).t) ∧ okA (ath l k) := by
  have hl := h.len
  have hlt : k < l.length := by omega
  obtain ⟨ad, rfl, hc⟩ := h.1.2.2.2 (by omega)
  have hj : ∀ j v, j < 6 → (acells (ath l k))[j]? = some v → w.cell? (ad.add (k * 6 + j)) = some v := fun j v h6 hv => hc _ _ (by rw [acs_at l k hlt j h6, ← ath_get hlt]; exact hv)
  have hf : ∀ j v, j < 6 → 0 < j → (acells (ath l k))[j]? = some v → w.cell? ⟨(ad.add (k * 6)).block, (ad.add (k * 6)).off + j, none⟩ = some v := fun j v h6 h0 hv => cell_fk (hj j v h6 hv) h0
  refine ⟨ad, rfl, ?_, hf 1 _ (by decide) (by decide) rfl, hf 2 _ (by decide) (by decide) rfl, hf 4 _ (by decide) (by decide) rfl, hf 5 _ (by decide) (by decide) rfl, h.2 _ (by rw [ath_get hlt]; exact List.getElem_mem hlt)⟩
  exact hj 0 _ (by decide) rfl
end Go.Proofs.YtpijfiaecicpfaaGreat

namespace Go.Proofs.YtpijfiaecicpfaaGreat
open Go.RowKit Go.Shelf
set_option linter.unusedVariables false
set_option linter.unusedSimpArgs false
/-- An index in memory: its shape, and the blocks that are its own. -/
def PTo (w : World) (t : Nat) (L : List Te) (X : Nat × BT) (F : Nat → Nat) : Prop := ∃ p fT, TreeAt 0 w t L X.1 p X.2 fT ∧ ∀ a, F a = one1 t a + fT a
/-- Nothing is shared. -/
def Dj (F G : Nat → Nat) : Prop := ∀ a, F a = 0 ∨ G a = 0
section
variable {w w' : World} {t r : Nat} {L : List Te} {X : Nat × BT} {F G : Nat → Nat}
theorem PTo.bound (h : PTo w t L X F) : ∀ a, w.heap.size ≤ a → F a = 0 := fun a ha => by
  obtain ⟨p, fT, h1, h2⟩ := h
  rw [h2 a, h1.tn.bound a ha, show one1 t a = 0 from if_neg (by have := h1.lt; omega)]
theorem PTo.frame {f : Nat → Nat} (h : PTo w t L X F) (hF : FR f w w') (hd : ∀ a, F a ≠ 0 → f a = 0) : PTo w' t L X F := by
  obtain ⟨p, fT, h1, h2⟩ := h
  obtain ⟨q, hq⟩ := h1.ht
  have ht : f t = 0 := hd t (by rw [h2 t, one_self]; omega)
  exact ⟨p, fT, ⟨⟨q, (hF.2.2.2.2 t (Array.getElem?_eq_some_iff.1 hq).1 ht).trans hq⟩, h1.tn.frame hF (fun a ha => hd a (by rw [h2 a]; omega)), h1.nd, h1.sh, h1.l4, h1.l1, h1.fl, h1.sr, h1.ok, h1.le⟩, h2⟩
theorem PTo.ext (h : PTo w t L X F) (hx : Ext w w') : PTo w' t L X F := h.frame (f := fun _ => 0) (FR.of_ext hx) (fun _ _ => rfl)
theorem PTo.lt (h : PTo w t L X F) : t < w.heap.size := by
  obtain ⟨p, fT, h1, h2⟩ := h
  exact h1.lt
theorem PTo.sr (h : PTo w t L X F) : Srt L := by
  obtain ⟨p, fT, h1, h2⟩ := h
  exact h1.sr
theorem PTo.turn {fT : Nat → Nat} {L' : List Te} {X' : Nat × BT} (h2 : ∀ a, F a = one1 t a + fT a) (ht0 : t < w.heap.size) (ht : TreeTurnedX X' 0 w w' t fT L') : ∃ F', PTo w' t L' X' F' ∧ (∀ a, a < w.heap.size → F' a ≠ 0 → F a ≠ 0) ∧ FR F w w' := by
  obtain ⟨p, f', h3, h4, h5⟩ := ht
  refine ⟨fun a => one1 t a + f' a, ⟨p, f', h3, fun _ => rfl⟩, fun a ha h6 h7 => h6 ?_, h5.mono (fun k _ h0 => by rw [h2 k] at h0; exact h0)⟩
  have h8 := h4 a ha
  rw [h2 a] at h7
  show one1 t a + f' a = 0
  omega
theorem RTo.bound (h : RTo w r L G) : ∀ a, w.heap.size ≤ a → G a = 0 := by
  obtain ⟨A1, c1, A2, c2, h1, h2, h3, h4, h5, h6, h7⟩ := h
  exact h7
theorem RTo.own (h : RTo w r L G) : G r ≠ 0 := by
  obtain ⟨A1, c1, A2, c2, h1, h2, h3, h4, h5, h6, h7⟩ := h
  exact h4
theorem Dj.symm (h : Dj F G) : Dj G F := fun a => (h a).symm
theorem Dj.left {F' : Nat → Nat} {n : Nat} (h : Dj F G) (h1 : ∀ a, a < n → F' a ≠ 0 → F a ≠ 0) (h2 : ∀ a, n ≤ a → G a = 0) : Dj F' G := fun a => by
  by_cases ha : a < n
  · rcases h a with h3 | h3
    · exact .inl (Classical.byContradiction fun h4 => h1 a ha h4 h3)
    · exact .inr h3
  · exact .inr (h2 a (by omega))
end
def actL (x : Ac) (L : List Te) : List Te := if x.op = 0 then putLs L ⟨x.s, x.a⟩ else if x.op = 1 then takeLs L ⟨x.s, x.a⟩ else L
def actX (x : Ac) (L : List Te) (X : Nat × BT) : Nat × BT := if x.op = 0 then putX X.1 X.2 L ⟨x.s, x.a⟩ else if x.op = 1 then takeX X.1 X.2 L ⟨x.s, x.a⟩ else X
theorem putLs_le {L : List Te} {x : Te} (h : L.length ≤ 1200) : (putLs L x).length ≤ 1200 := by
  unfold putLs
  split
  · rename_i h0
    unfold putEr at h0
    split at h0
    · split at h0
      · cases h0
      · split at h0
        · cases h0
        · rw [len_ins]; omega
    · cases h0
  · exact h
theorem takeLs_le {L : List Te} {x : Te} (h : L.length ≤ 1200) : (takeLs L x).length ≤ 1200 := by
  unfold takeLs
  split
  · rename_i h0
    by_cases hx : x ∈ L
    · have := len_del hx; omega
    · unfold takeEr at h0
      split at h0
      · rw [if_neg (fun hm => hx (memT_iff.1 hm))] at h0
        cases h0
      · cases h0
  · exact h
theorem actL_le {x : Ac} {L : List Te} (h : L.length ≤ 1200) : (actL x L).length ≤ 1200 := by
  unfold actL
  split
  · exact putLs_le h
  · split
    · exact takeLs_le h
    · exact h
/-- What an act leaves of two trees. -/
def Pair2 (x : Ac) (L : List Te) (X : Nat × BT) (F G : Nat → Nat) (t r : Nat) (w w' : World) : Prop := ∃ F' G', PTo w' t (actL x L) (actX x L X) F' ∧ RTo w' r (actL x L) G' ∧ Dj F' G' ∧ (∀ a, a < w.heap.size → F' a ≠ 0 → F a ≠ 0) ∧ (∀ a, a < w.heap.size → G' a ≠ 0 → G a ≠ 0) ∧ FR (fun a => F a + G a) w w'
def GivePl (x : Ac) (L : List Te) (X : Nat × BT) (F G : Nat → Nat) (t r : Nat) (w : World) (e : Ending) (w' : World) : Prop := e = .returned (.bool true) ∧ Pair2 x L X F G t r w w'
theorem Pair2.stay {x : Ac} {L : List Te} {X : Nat × BT} {F G : Nat → Nat} {t r : Nat} {w w' : World} (h0 : x.op ≠ 0) (h1 : x.op ≠ 1) (hP : PTo w t L X F) (hR : RTo w r L G) (hD : Dj F G) (hx : Ext w w') : Pair2 x L X F G t r w w' := by
  unfold Pair2 actL actX
  rw [if_neg h0, if_neg h1, if_neg h0, if_neg h1]
  exact ⟨F, G, hP.ext hx, hR.ext hx, hD, fun _ _ h => h, fun _ _ h => h, FR.of_ext hx⟩
/-- Both have turned, one behind the other, between other things that are new. -/
theorem Pair2.turn {x : Ac} {L L' : List Te} {X X' : Nat × BT} {F F' G : Nat → Nat} {t r : Nat} {w w1 w2 w3 : World} (eL : actL x L = L') (eX : actX x L X = X') (hP : PTo w t L X F) (hR : RTo w r L G) (hD : Dj F G) (hx1 : Ext w w1) (hP2 : PTo w2 t L' X' F') (k2 : ∀ a, a < w1.heap.size → F' a ≠ 0 → F a ≠ 0) (hF2 : FR F w1 w2) (hR3 : RTurned w2 w3 r G L') : Pair2 x L X F G t r w w3 := by
  unfold Pair2
  rw [eL, eX]
  obtain ⟨G', h1, h2, h3⟩ := hR3
  have s1 := hx1.size
  have s2 := hF2.2.2.2.1
  have d1 : Dj F' G := hD.left (n := w1.heap.size) k2 (fun a ha => hR.bound a (by omega))
  have hGr := hR.own
  have hfr : ∀ a, F' a ≠ 0 → one1 r a = 0 := fun a ha => if_neg (fun e => by rcases d1 a with h | h; exact ha h; exact hGr (e ▸ h))
  refine ⟨F', G', hP2.frame h3 hfr, h1, (d1.symm.left (n := w2.heap.size) h2 (fun a ha => hP2.bound a ha)).symm, fun a ha h => k2 a (by omega) h, fun a ha h => h2 a (by omega) h, ?_⟩
  refine ((FR.of_ext (f := fun a => F a + G a) hx1).trans hF2 (fun k _ h0 => by have : F k + G k = 0 := h0; omega)).trans h3 (fun k _ h0 => if_neg (fun e => ?_))
  have : F k + G k = 0 := h0
  rw [e] at this
  omega
set_option maxRecDepth 100000 in
set_option maxHeartbeats 4000000 in
theorem found_any (k : ByteArray) (i : Int) (b : Bool) (w : World) : Calls Tryz.prog 25 #[.string k, .int .i64 i, .bool b, .string k, .int .i64 i, .bool b] w fun e w' => e = .returned (.bool true) ∧ w = w' := by
  go_enter Tryz.func25, Tryz.ntmps25
  go_wp2
  go_ret
  exact ⟨rfl, rfl⟩
end Go.Proofs.YtpijfiaecicpfaaGreat

namespace Go.Proofs.YtpijfiaecicpfaaGreat
open Go.RowKit Go.Shelf
set_option linter.unusedVariables false
set_option linter.unusedSimpArgs false
set_option maxRecDepth 100000 in
set_option maxHeartbeats 4000000 in
theorem play_0 (t r : Nat) (x : Ac) (L : List Te) (X : Nat × BT) (F G : Nat → Nat) (w : World) (hP : PTo w t L X F) (hR : RTo w r L G) (hD : Dj F G) (hl : L.length ≤ 1200) (h : x.op = 0) : Calls Tryz.prog 8 #[.pointer (some ⟨t, 0, none⟩), .pointer (some ⟨r, 0, none⟩), .agg #[.int .i64 x.op, .int .i64 x.a, .int .i64 x.b, .int .i64 x.c, .string x.s, .string x.t]] w (GivePl x L X F G t r w) := by
  have hop : x.op = 0 := h
  have d0 : (x.op == 0) = true := by rw [hop]; rfl
  have hgo := hid hP
  have hP' := hP
  obtain ⟨p, fT, H, hF⟩ := hP'
  have eL : Hid (actL x L = putLs L ⟨x.s, x.a⟩) := by unfold Hid actL; rw [if_pos h]
  have eX : Hid (actX x L X = putX X.1 X.2 L ⟨x.s, x.a⟩) := by unfold Hid actX; rw [if_pos h]
  obtain ⟨er, hE⟩ : ∃ er, Hid (er = putEr L ⟨x.s, x.a⟩) := ⟨_, rfl⟩
  obtain ⟨L', hL'⟩ : ∃ L', Hid (L' = putLs L ⟨x.s, x.a⟩) := ⟨_, rfl⟩
  obtain ⟨X', hX'⟩ : ∃ X', Hid (X' = putX X.1 X.2 L ⟨x.s, x.a⟩) := ⟨_, rfl⟩
  rw [← hL'.out] at eL
  rw [← hX'.out] at eX
  have hC1 : Hid (∀ w1, Ext w w1 → Calls Tryz.prog 16 #[.pointer (some ⟨t, 0, none⟩), .string x.s, .int .i64 x.a] w1 fun e w' => e = .returned (.int .i64 er) ∧ TreeTurnedX X' 0 w1 w' t fT L') := fun w1 hx => by
    rw [hE.out, hL'.out, hX'.out]; exact PutX_any t L X.1 p X.2 fT x.s x.a w1 (H.ext hx)
  have hC2 : Hid (∀ w1 w2, Ext w w1 → FR F w1 w2 → Calls Tryz.prog 19 #[.pointer (some ⟨r, 0, none⟩), .string x.s, .int .i64 x.a] w2 fun e w' => e = .returned (.int .i64 er) ∧ RTurned w2 w' r G L') := fun w1 w2 hx hF => rPut_any r L G x.s x.a w2 ((hR.ext hx).frame hF (fun a h => (hD a).resolve_right h)) H.sr hl er L' hE.out hL'.out
  have hlt := hid H.lt
  have hfin := hid (fun (w1 w2 w3 : World) (F' : Nat → Nat) (hx : Ext w w1) (h1 : PTo w2 t L' X' F') h2 h3 h4 => Pair2.turn (w1 := w1) (w2 := w2) (w3 := w3) (F' := F') eL.out eX.out hgo.out hR hD hx h1 h2 h3 h4)
  have hFb := hid hgo.out.bound
  have hrlt := hid hR.lt
  replace hF := hid hF
  clear H hE hL' hX' eL eX hgo
  have hx1 := hid ((Ext.refl w).alloc_right (.cells #[.int .i64 x.op, .int .i64 x.a, .int .i64 x.b, .int .i64 x.c, .string x.s, .string x.t] 34))
  have ha := heap_alloc_new w (.cells #[.int .i64 x.op, .int .i64 x.a, .int .i64 x.b, .int .i64 x.c, .string x.s, .string x.t] 34)
  have z0 : (w.alloc (.cells #[.int .i64 x.op, .int .i64 x.a, .int .i64 x.b, .int .i64 x.c, .string x.s, .string x.t] 34)).cell? ⟨w.heap.size, 0, none⟩ = some (.int .i64 x.op) := by rw [Lib.cell_of_heap ha]; rfl
  have z1 : (w.alloc (.cells #[.int .i64 x.op, .int .i64 x.a, .int .i64 x.b, .int .i64 x.c, .string x.s, .string x.t] 34)).cell? ⟨w.heap.size, 1, none⟩ = some (.int .i64 x.a) := by rw [Lib.cell_of_heap ha]; rfl
  have z4 : (w.alloc (.cells #[.int .i64 x.op, .int .i64 x.a, .int .i64 x.b, .int .i64 x.c, .string x.s, .string x.t] 34)).cell? ⟨w.heap.size, 4, none⟩ = some (.string x.s) := by rw [Lib.cell_of_heap ha]; rfl
  have z5 : (w.alloc (.cells #[.int .i64 x.op, .int .i64 x.a, .int .i64 x.b, .int .i64 x.c, .string x.s, .string x.t] 34)).cell? ⟨w.heap.size, 5, none⟩ = some (.string x.t) := by rw [Lib.cell_of_heap ha]; rfl
  have lb := (Array.getElem?_eq_some_iff.1 ha).1
  clear ha
  clear hop h
  clear hP hR hD
  go_enter Tryz.func8, Tryz.ntmps8
  go_upto_region 1 with fail
  obtain ⟨b, hb⟩ : ∃ b, b = w.heap.size := ⟨_, rfl⟩
  rw [← hb] at z0 z1 z4 z5 lb
  simp only [← hb]
  replace hb := hid hb
  generalize w.alloc (.cells #[.int .i64 x.op, .int .i64 x.a, .int .i64 x.b, .int .i64 x.c, .string x.s, .string x.t] 34) = W1 at *
  go_upto_region 3 with fail
  have I0 : (fun w' : World => w'.cell? ⟨b, 1, none⟩ = some (.int .i64 x.a) ∧ w'.cell? ⟨b, 4, none⟩ = some (.string x.s) ∧ w'.cell? ⟨b, 5, none⟩ = some (.string x.t)) W1.drew := ⟨z1, z4, z5⟩
  refine region_J (fun w' : World => w'.cell? ⟨b, 1, none⟩ = some (.int .i64 x.a) ∧ w'.cell? ⟨b, 4, none⟩ = some (.string x.s) ∧ w'.cell? ⟨b, 5, none⟩ = some (.string x.t)) 14 (by kernel_rfl) ?_
  replace hx1 := hid (hx1.out.drew_right)
  clear z0 z1 z4 z5 lb
  generalize W1.drew = W1 at *
  refine J_takeO 0 (v := ?vc0) rfl (by kernel_rfl) (by kernel_rfl) (by kernel_rfl) (by kernel_rfl) (fun _ _ _ h => h) (Or.inl ⟨by rfl, ?yc0⟩) I0 ?rc0
  case yc0 => (intro w hSw; obtain ⟨_, _, _⟩ := hSw; (go_simp; with_reducible rfl))
  simp only [Act.put, List.getElem_toArray, List.getElem_cons_zero, List.getElem_cons_succ, List.setIfInBounds_toArray, List.set_cons_zero, List.set_cons_succ]
  refine J_takeO 1 (v := ?vc1) rfl (by kernel_rfl) (by kernel_rfl) (by kernel_rfl) (by kernel_rfl) (fun _ _ _ h => h) (Or.inl ⟨by rfl, ?yc1⟩) I0 ?rc1
  case yc1 => (intro w hSw; obtain ⟨_, _, _⟩ := hSw; (go_simp; with_reducible rfl))
  simp only [Act.put, List.getElem_toArray, List.getElem_cons_zero, List.getElem_cons_succ, List.setIfInBounds_toArray, List.set_cons_zero, List.set_cons_succ]
  refine J_takeO 2 (v := ?vc2) rfl (by kernel_rfl) (by kernel_rfl) (by kernel_rfl) (by kernel_rfl) (fun _ _ _ h => h) (Or.inl ⟨by rfl, ?yc2⟩) I0 ?rc2
  case yc2 => (intro w hSw; obtain ⟨_, _, _⟩ := hSw; (go_simp; with_reducible rfl))
  simp only [Act.put, List.getElem_toArray, List.getElem_cons_zero, List.getElem_cons_succ, List.setIfInBounds_toArray, List.set_cons_zero, List.set_cons_succ]
  refine J_takeO 3 (v := ?vc3) rfl (by kernel_rfl) (by kernel_rfl) (by kernel_rfl) (by kernel_rfl) (fun _ _ _ h => h) (Or.inl ⟨by rfl, ?yc3⟩) I0 ?rc3
  case yc3 => (intro w hSw; obtain ⟨_, _, _⟩ := hSw; (go_simp; with_reducible rfl))
  simp only [Act.put, List.getElem_toArray, List.getElem_cons_zero, List.getElem_cons_succ, List.setIfInBounds_toArray, List.set_cons_zero, List.set_cons_succ]
  refine J_takeO 4 (v := ?vc4) rfl (by kernel_rfl) (by kernel_rfl) (by kernel_rfl) (by kernel_rfl) (fun _ _ _ h => h) (Or.inl ⟨by rfl, ?yc4⟩) I0 ?rc4
  case yc4 => (intro w hSw; obtain ⟨_, _, _⟩ := hSw; (go_simp; with_reducible rfl))
  simp only [Act.put, List.getElem_toArray, List.getElem_cons_zero, List.getElem_cons_succ, List.setIfInBounds_toArray, List.set_cons_zero, List.set_cons_succ]
  refine J_takeO 6 (v := ?vc6) rfl (by kernel_rfl) (by kernel_rfl) (by kernel_rfl) (by kernel_rfl) (fun _ _ _ h => h) (Or.inl ⟨by rfl, ?yc6⟩) I0 ?rc6
  case yc6 => (intro w hSw; obtain ⟨_, _, _⟩ := hSw; (go_simp; with_reducible rfl))
  simp only [Act.put, List.getElem_toArray, List.getElem_cons_zero, List.getElem_cons_succ, List.setIfInBounds_toArray, List.set_cons_zero, List.set_cons_succ]
  refine J_takeO 7 (v := ?vc7) rfl (by kernel_rfl) (by kernel_rfl) (by kernel_rfl) (by kernel_rfl) (fun _ _ _ h => h) (Or.inl ⟨by rfl, ?yc7⟩) I0 ?rc7
  case yc7 => (intro w hSw; obtain ⟨_, _, _⟩ := hSw; (go_simp; with_reducible rfl))
  simp only [Act.put, List.getElem_toArray, List.getElem_cons_zero, List.getElem_cons_succ, List.setIfInBounds_toArray, List.set_cons_zero, List.set_cons_succ]
  refine J_takeO 8 (v := ?vc8) rfl (by kernel_rfl) (by kernel_rfl) (by kernel_rfl) (by kernel_rfl) (fun _ _ _ h => h) (Or.inl ⟨by rfl, ?yc8⟩) I0 ?rc8
  case yc8 => (intro w hSw; obtain ⟨_, _, _⟩ := hSw; (go_simp; with_reducible rfl))
  simp only [Act.put, List.getElem_toArray, List.getElem_cons_zero, List.getElem_cons_succ, List.setIfInBounds_toArray, List.set_cons_zero, List.set_cons_succ]
  refine J_takeO 9 (v := ?vc9) rfl (by kernel_rfl) (by kernel_rfl) (by kernel_rfl) (by kernel_rfl) (fun _ _ _ h => h) (Or.inl ⟨by rfl, ?yc9⟩) I0 ?rc9
  case yc9 => (intro w hSw; obtain ⟨_, _, _⟩ := hSw; (go_simp; with_reducible rfl))
  simp only [Act.put, List.getElem_toArray, List.getElem_cons_zero, List.getElem_cons_succ, List.setIfInBounds_toArray, List.set_cons_zero, List.set_cons_succ]
  refine J_takeO 10 (v := ?vc10) rfl (by kernel_rfl) (by kernel_rfl) (by kernel_rfl) (by kernel_rfl) (fun _ _ _ h => h) (Or.inl ⟨by rfl, ?yc10⟩) I0 ?rc10
  case yc10 => (intro w hSw; obtain ⟨_, _, _⟩ := hSw; (go_simp; with_reducible rfl))
  simp only [Act.put, List.getElem_toArray, List.getElem_cons_zero, List.getElem_cons_succ, List.setIfInBounds_toArray, List.set_cons_zero, List.set_cons_succ]
  refine J_one 5 rfl (by kernel_rfl) (fun K hK => ?_)
  go_simp
  refine (hC1.out W1 hx1.out).mono ?_
  rintro e w2 ⟨rfl, ht⟩
  have hsz1 := hx1.out.size
  obtain ⟨F', hP2, k2, hF2⟩ := PTo.turn hF.out (Nat.lt_of_lt_of_le hlt.out hsz1) ht
  have hkeep : ∀ (j : Nat) (u : Value), W1.cell? ⟨b, j, none⟩ = some u → w2.cell? ⟨b, j, none⟩ = some u := fun j u hu => by
    rw [World.cell?_of_block (hF2.2.2.2.2 b (World.block_lt_of_cell? _ _ hu) (hFb.out b (by have := hb.out; omega)))]
    exact hu
  have I2 : (fun w' : World => w'.cell? ⟨b, 1, none⟩ = some (.int .i64 x.a) ∧ w'.cell? ⟨b, 4, none⟩ = some (.string x.s) ∧ w'.cell? ⟨b, 5, none⟩ = some (.string x.t)) w2 := ⟨hkeep 1 _ I0.1, hkeep 4 _ I0.2.1, hkeep 5 _ I0.2.2⟩
  replace hP2 := hid hP2
  replace k2 := hid k2
  replace hF2 := hid hF2
  clear ht hkeep
  refine hK _ _ ⟨fun _ => I2, ?_⟩
  clear hK K
  try simp only [Act.put, List.getElem_toArray, List.getElem_cons_zero, List.getElem_cons_succ, List.setIfInBounds_toArray, List.set_cons_zero, List.set_cons_succ]
  refine J_one 11 rfl (by kernel_rfl) (fun K hK => ?_)
  go_simp
  refine (hC2.out W1 w2 hx1.out hF2.out).mono ?_
  rintro e w3 ⟨rfl, ht⟩
  have hres := hid (hfin.out W1 w2 w3 F' hx1.out hP2.out k2.out hF2.out ht)
  have hsz1 := hx1.out.size
  have hsz2 := hF2.out.2.2.2.1
  have hkeep : ∀ (j : Nat) (u : Value), w2.cell? ⟨b, j, none⟩ = some u → w3.cell? ⟨b, j, none⟩ = some u := fun j u hu => by
    obtain ⟨G', -, -, h3⟩ := ht
    rw [World.cell?_of_block (h3.2.2.2.2 b (World.block_lt_of_cell? _ _ hu) (if_neg (fun e => by have := hrlt.out; have := hb.out; omega)))]
    exact hu
  have I3 : (fun w' : World => w'.cell? ⟨b, 1, none⟩ = some (.int .i64 x.a) ∧ w'.cell? ⟨b, 4, none⟩ = some (.string x.s) ∧ w'.cell? ⟨b, 5, none⟩ = some (.string x.t)) w3 := ⟨hkeep 1 _ I2.1, hkeep 4 _ I2.2.1, hkeep 5 _ I2.2.2⟩
  clear ht hkeep hsz1 hsz2
  refine hK _ _ ⟨fun _ => I3, ?_⟩
  clear hK K
  try simp only [Act.put, List.getElem_toArray, List.getElem_cons_zero, List.getElem_cons_succ, List.setIfInBounds_toArray, List.set_cons_zero, List.set_cons_succ]
  refine J_one 12 rfl (by kernel_rfl) (fun K hK => ?_)
  go_simp
  refine hK _ _ ⟨fun _ => I3, ?_⟩
  clear hK K
  try simp only [Act.put, List.setIfInBounds_toArray, List.set_cons_zero, List.set_cons_succ]
  refine J_one 13 rfl (by kernel_rfl) (fun K hK => ?_)
  go_simp
  refine hK _ _ ⟨fun _ => I3, ?_⟩
  clear hK K
  try simp only [Act.put, List.setIfInBounds_toArray, List.set_cons_zero, List.set_cons_succ]
  refine J_done (by kernel_rfl) (OnlyOn.normal ?_)
  go_wp2
  go_ret
  exact ⟨rfl, hres.out⟩
set_option maxRecDepth 100000 in
set_option maxHeartbeats 4000000 in
theorem play_1 (t r : Nat) (x : Ac) (L : List Te) (X : Nat × BT) (F G : Nat → Nat) (w : World) (hP : PTo w t L X F) (hR : RTo w r L G) (hD : Dj F G) (hl : L.length ≤ 1200) (h : x.op = 1) : Calls Tryz.prog 8 #[.pointer (some ⟨t, 0, none⟩), .pointer (some ⟨r, 0, none⟩), .agg #[.int .i64 x.op, .int .i64 x.a, .int .i64 x.b, .int .i64 x.c, .string x.s, .string x.t]] w (GivePl x L X F G t r w) := by
  have hop : x.op = 1 := h
  have d0 : (x.op == 0) = false := by rw [beq_eq_false_iff_ne, hop]; decide
  have d1 : (x.op == 1) = true := by rw [hop]; rfl
  have hgo := hid hP
  have hP' := hP
  obtain ⟨p, fT, H, hF⟩ := hP'
  have eL : Hid (actL x L = takeLs L ⟨x.s, x.a⟩) := by unfold Hid actL; rw [if_neg (by rw [h]; decide), if_pos h]
  have eX : Hid (actX x L X = takeX X.1 X.2 L ⟨x.s, x.a⟩) := by unfold Hid actX; rw [if_neg (by rw [h]; decide), if_pos h]
  obtain ⟨er, hE⟩ : ∃ er, Hid (er = takeEr L ⟨x.s, x.a⟩) := ⟨_, rfl⟩
  obtain ⟨L', hL'⟩ : ∃ L', Hid (L' = takeLs L ⟨x.s, x.a⟩) := ⟨_, rfl⟩
  obtain ⟨X', hX'⟩ : ∃ X', Hid (X' = takeX X.1 X.2 L ⟨x.s, x.a⟩) := ⟨_, rfl⟩
  rw [← hL'.out] at eL
  rw [← hX'.out] at eX
  have hC1 : Hid (∀ w1, Ext w w1 → Calls Tryz.prog 20 #[.pointer (some ⟨t, 0, none⟩), .string x.s, .int .i64 x.a] w1 fun e w' => e = .returned (.int .i64 er) ∧ TreeTurnedX X' 0 w1 w' t fT L') := fun w1 hx => by
    exact TakeX_any t L X.1 p X.2 fT x.s x.a w1 (H.ext hx) er L' hE.out hL'.out X' hX'.out
  have hC2 : Hid (∀ w1 w2, Ext w w1 → FR F w1 w2 → Calls Tryz.prog 21 #[.pointer (some ⟨r, 0, none⟩), .string x.s, .int .i64 x.a] w2 fun e w' => e = .returned (.int .i64 er) ∧ RTurned w2 w' r G L') := fun w1 w2 hx hF => rTake_any r L G x.s x.a w2 ((hR.ext hx).frame hF (fun a h => (hD a).resolve_right h)) H.sr hl er L' hE.out hL'.out
  have hlt := hid H.lt
  have hfin := hid (fun (w1 w2 w3 : World) (F' : Nat → Nat) (hx : Ext w w1) (h1 : PTo w2 t L' X' F') h2 h3 h4 => Pair2.turn (w1 := w1) (w2 := w2) (w3 := w3) (F' := F') eL.out eX.out hgo.out hR hD hx h1 h2 h3 h4)
  have hFb := hid hgo.out.bound
  have hrlt := hid hR.lt
  replace hF := hid hF
  clear H hE hL' hX' eL eX hgo
  have hx1 := hid ((Ext.refl w).alloc_right (.cells #[.int .i64 x.op, .int .i64 x.a, .int .i64 x.b, .int .i64 x.c, .string x.s, .string x.t] 34))
  have ha := heap_alloc_new w (.cells #[.int .i64 x.op, .int .i64 x.a, .int .i64 x.b, .int .i64 x.c, .string x.s, .string x.t] 34)
  have z0 : (w.alloc (.cells #[.int .i64 x.op, .int .i64 x.a, .int .i64 x.b, .int .i64 x.c, .string x.s, .string x.t] 34)).cell? ⟨w.heap.size, 0, none⟩ = some (.int .i64 x.op) := by rw [Lib.cell_of_heap ha]; rfl
  have z1 : (w.alloc (.cells #[.int .i64 x.op, .int .i64 x.a, .int .i64 x.b, .int .i64 x.c, .string x.s, .string x.t] 34)).cell? ⟨w.heap.size, 1, none⟩ = some (.int .i64 x.a) := by rw [Lib.cell_of_heap ha]; rfl
  have z4 : (w.alloc (.cells #[.int .i64 x.op, .int .i64 x.a, .int .i64 x.b, .int .i64 x.c, .string x.s, .string x.t] 34)).cell? ⟨w.heap.size, 4, none⟩ = some (.string x.s) := by rw [Lib.cell_of_heap ha]; rfl
  have z5 : (w.alloc (.cells #[.int .i64 x.op, .int .i64 x.a, .int .i64 x.b, .int .i64 x.c, .string x.s, .string x.t] 34)).cell? ⟨w.heap.size, 5, none⟩ = some (.string x.t) := by rw [Lib.cell_of_heap ha]; rfl
  have lb := (Array.getElem?_eq_some_iff.1 ha).1
  clear ha
  clear hop h
  clear hP hR hD
  go_enter Tryz.func8, Tryz.ntmps8
  go_upto_region 1 with fail
  obtain ⟨b, hb⟩ : ∃ b, b = w.heap.size := ⟨_, rfl⟩
  rw [← hb] at z0 z1 z4 z5 lb
  simp only [← hb]
  replace hb := hid hb
  generalize w.alloc (.cells #[.int .i64 x.op, .int .i64 x.a, .int .i64 x.b, .int .i64 x.c, .string x.s, .string x.t] 34) = W1 at *
  go_upto_region 5 with fail
  have I0 : (fun w' : World => w'.cell? ⟨b, 1, none⟩ = some (.int .i64 x.a) ∧ w'.cell? ⟨b, 4, none⟩ = some (.string x.s) ∧ w'.cell? ⟨b, 5, none⟩ = some (.string x.t)) W1.drew := ⟨z1, z4, z5⟩
  refine region_J (fun w' : World => w'.cell? ⟨b, 1, none⟩ = some (.int .i64 x.a) ∧ w'.cell? ⟨b, 4, none⟩ = some (.string x.s) ∧ w'.cell? ⟨b, 5, none⟩ = some (.string x.t)) 14 (by kernel_rfl) ?_
  replace hx1 := hid (hx1.out.drew_right)
  clear z0 z1 z4 z5 lb
  generalize W1.drew = W1 at *
  refine J_takeO 0 (v := ?vc0) rfl (by kernel_rfl) (by kernel_rfl) (by kernel_rfl) (by kernel_rfl) (fun _ _ _ h => h) (Or.inl ⟨by rfl, ?yc0⟩) I0 ?rc0
  case yc0 => (intro w hSw; obtain ⟨_, _, _⟩ := hSw; (go_simp; with_reducible rfl))
  simp only [Act.put, List.getElem_toArray, List.getElem_cons_zero, List.getElem_cons_succ, List.setIfInBounds_toArray, List.set_cons_zero, List.set_cons_succ]
  refine J_takeO 1 (v := ?vc1) rfl (by kernel_rfl) (by kernel_rfl) (by kernel_rfl) (by kernel_rfl) (fun _ _ _ h => h) (Or.inl ⟨by rfl, ?yc1⟩) I0 ?rc1
  case yc1 => (intro w hSw; obtain ⟨_, _, _⟩ := hSw; (go_simp; with_reducible rfl))
  simp only [Act.put, List.getElem_toArray, List.getElem_cons_zero, List.getElem_cons_succ, List.setIfInBounds_toArray, List.set_cons_zero, List.set_cons_succ]
  refine J_takeO 2 (v := ?vc2) rfl (by kernel_rfl) (by kernel_rfl) (by kernel_rfl) (by kernel_rfl) (fun _ _ _ h => h) (Or.inl ⟨by rfl, ?yc2⟩) I0 ?rc2
  case yc2 => (intro w hSw; obtain ⟨_, _, _⟩ := hSw; (go_simp; with_reducible rfl))
  simp only [Act.put, List.getElem_toArray, List.getElem_cons_zero, List.getElem_cons_succ, List.setIfInBounds_toArray, List.set_cons_zero, List.set_cons_succ]
  refine J_takeO 3 (v := ?vc3) rfl (by kernel_rfl) (by kernel_rfl) (by kernel_rfl) (by kernel_rfl) (fun _ _ _ h => h) (Or.inl ⟨by rfl, ?yc3⟩) I0 ?rc3
  case yc3 => (intro w hSw; obtain ⟨_, _, _⟩ := hSw; (go_simp; with_reducible rfl))
  simp only [Act.put, List.getElem_toArray, List.getElem_cons_zero, List.getElem_cons_succ, List.setIfInBounds_toArray, List.set_cons_zero, List.set_cons_succ]
  refine J_takeO 4 (v := ?vc4) rfl (by kernel_rfl) (by kernel_rfl) (by kernel_rfl) (by kernel_rfl) (fun _ _ _ h => h) (Or.inl ⟨by rfl, ?yc4⟩) I0 ?rc4
  case yc4 => (intro w hSw; obtain ⟨_, _, _⟩ := hSw; (go_simp; with_reducible rfl))
  simp only [Act.put, List.getElem_toArray, List.getElem_cons_zero, List.getElem_cons_succ, List.setIfInBounds_toArray, List.set_cons_zero, List.set_cons_succ]
  refine J_takeO 6 (v := ?vc6) rfl (by kernel_rfl) (by kernel_rfl) (by kernel_rfl) (by kernel_rfl) (fun _ _ _ h => h) (Or.inl ⟨by rfl, ?yc6⟩) I0 ?rc6
  case yc6 => (intro w hSw; obtain ⟨_, _, _⟩ := hSw; (go_simp; with_reducible rfl))
  simp only [Act.put, List.getElem_toArray, List.getElem_cons_zero, List.getElem_cons_succ, List.setIfInBounds_toArray, List.set_cons_zero, List.set_cons_succ]
  refine J_takeO 7 (v := ?vc7) rfl (by kernel_rfl) (by kernel_rfl) (by kernel_rfl) (by kernel_rfl) (fun _ _ _ h => h) (Or.inl ⟨by rfl, ?yc7⟩) I0 ?rc7
  case yc7 => (intro w hSw; obtain ⟨_, _, _⟩ := hSw; (go_simp; with_reducible rfl))
  simp only [Act.put, List.getElem_toArray, List.getElem_cons_zero, List.getElem_cons_succ, List.setIfInBounds_toArray, List.set_cons_zero, List.set_cons_succ]
  refine J_takeO 8 (v := ?vc8) rfl (by kernel_rfl) (by kernel_rfl) (by kernel_rfl) (by kernel_rfl) (fun _ _ _ h => h) (Or.inl ⟨by rfl, ?yc8⟩) I0 ?rc8
  case yc8 => (intro w hSw; obtain ⟨_, _, _⟩ := hSw; (go_simp; with_reducible rfl))
  simp only [Act.put, List.getElem_toArray, List.getElem_cons_zero, List.getElem_cons_succ, List.setIfInBounds_toArray, List.set_cons_zero, List.set_cons_succ]
  refine J_takeO 9 (v := ?vc9) rfl (by kernel_rfl) (by kernel_rfl) (by kernel_rfl) (by kernel_rfl) (fun _ _ _ h => h) (Or.inl ⟨by rfl, ?yc9⟩) I0 ?rc9
  case yc9 => (intro w hSw; obtain ⟨_, _, _⟩ := hSw; (go_simp; with_reducible rfl))
  simp only [Act.put, List.getElem_toArray, List.getElem_cons_zero, List.getElem_cons_succ, List.setIfInBounds_toArray, List.set_cons_zero, List.set_cons_succ]
  refine J_takeO 10 (v := ?vc10) rfl (by kernel_rfl) (by kernel_rfl) (by kernel_rfl) (by kernel_rfl) (fun _ _ _ h => h) (Or.inl ⟨by rfl, ?yc10⟩) I0 ?rc10
  case yc10 => (intro w hSw; obtain ⟨_, _, _⟩ := hSw; (go_simp; with_reducible rfl))
  simp only [Act.put, List.getElem_toArray, List.getElem_cons_zero, List.getElem_cons_succ, List.setIfInBounds_toArray, List.set_cons_zero, List.set_cons_succ]
  refine J_one 5 rfl (by kernel_rfl) (fun K hK => ?_)
  go_simp
  refine (hC1.out W1 hx1.out).mono ?_
  rintro e w2 ⟨rfl, ht⟩
  have hsz1 := hx1.out.size
  obtain ⟨F', hP2, k2, hF2⟩ := PTo.turn hF.out (Nat.lt_of_lt_of_le hlt.out hsz1) ht
  have hkeep : ∀ (j : Nat) (u : Value), W1.cell? ⟨b, j, none⟩ = some u → w2.cell? ⟨b, j, none⟩ = some u := fun j u hu => by
    rw [World.cell?_of_block (hF2.2.2.2.2 b (World.block_lt_of_cell? _ _ hu) (hFb.out b (by have := hb.out; omega)))]
    exact hu
  have I2 : (fun w' : World => w'.cell? ⟨b, 1, none⟩ = some (.int .i64 x.a) ∧ w'.cell? ⟨b, 4, none⟩ = some (.string x.s) ∧ w'.cell? ⟨b, 5, none⟩ = some (.string x.t)) w2 := ⟨hkeep 1 _ I0.1, hkeep 4 _ I0.2.1, hkeep 5 _ I0.2.2⟩
  replace hP2 := hid hP2
  replace k2 := hid k2
  replace hF2 := hid hF2
  clear ht hkeep
  refine hK _ _ ⟨fun _ => I2, ?_⟩
  clear hK K
  try simp only [Act.put, List.getElem_toArray, List.getElem_cons_zero, List.getElem_cons_succ, List.setIfInBounds_toArray, List.set_cons_zero, List.set_cons_succ]
  refine J_one 11 rfl (by kernel_rfl) (fun K hK => ?_)
  go_simp
  refine (hC2.out W1 w2 hx1.out hF2.out).mono ?_
  rintro e w3 ⟨rfl, ht⟩
  have hres := hid (hfin.out W1 w2 w3 F' hx1.out hP2.out k2.out hF2.out ht)
  have hsz1 := hx1.out.size
  have hsz2 := hF2.out.2.2.2.1
  have hkeep : ∀ (j : Nat) (u : Value), w2.cell? ⟨b, j, none⟩ = some u → w3.cell? ⟨b, j, none⟩ = some u := fun j u hu => by
    obtain ⟨G', -, -, h3⟩ := ht
    rw [World.cell?_of_block (h3.2.2.2.2 b (World.block_lt_of_cell? _ _ hu) (if_neg (fun e => by have := hrlt.out; have := hb.out; omega)))]
    exact hu
  have I3 : (fun w' : World => w'.cell? ⟨b, 1, none⟩ = some (.int .i64 x.a) ∧ w'.cell? ⟨b, 4, none⟩ = some (.string x.s) ∧ w'.cell? ⟨b, 5, none⟩ = some (.string x.t)) w3 := ⟨hkeep 1 _ I2.1, hkeep 4 _ I2.2.1, hkeep 5 _ I2.2.2⟩
  clear ht hkeep hsz1 hsz2
  refine hK _ _ ⟨fun _ => I3, ?_⟩
  clear hK K
  try simp only [Act.put, List.getElem_toArray, List.getElem_cons_zero, List.getElem_cons_succ, List.setIfInBounds_toArray, List.set_cons_zero, List.set_cons_succ]
  refine J_one 12 rfl (by kernel_rfl) (fun K hK => ?_)
  go_simp
  refine hK _ _ ⟨fun _ => I3, ?_⟩
  clear hK K
  try simp only [Act.put, List.setIfInBounds_toArray, List.set_cons_zero, List.set_cons_succ]
  refine J_one 13 rfl (by kernel_rfl) (fun K hK => ?_)
  go_simp
  refine hK _ _ ⟨fun _ => I3, ?_⟩
  clear hK K
  try simp only [Act.put, List.setIfInBounds_toArray, List.set_cons_zero, List.set_cons_succ]
  refine J_done (by kernel_rfl) (OnlyOn.normal ?_)
  go_wp2
  go_ret
  exact ⟨rfl, hres.out⟩
set_option maxRecDepth 100000 in
set_option maxHeartbeats 4000000 in
theorem play_2 (t r : Nat) (x : Ac) (L : List Te) (X : Nat × BT) (F G : Nat → Nat) (w : World) (hP : PTo w t L X F) (hR : RTo w r L G) (hD : Dj F G) (hl : L.length ≤ 1200) (h : x.op = 2) : Calls Tryz.prog 8 #[.pointer (some ⟨t, 0, none⟩), .pointer (some ⟨r, 0, none⟩), .agg #[.int .i64 x.op, .int .i64 x.a, .int .i64 x.b, .int .i64 x.c, .string x.s, .string x.t]] w (GivePl x L X F G t r w) := by
  have hop : x.op = 2 := h
  have d0 : (x.op == 0) = false := by rw [beq_eq_false_iff_ne, hop]; decide
  have d1 : (x.op == 1) = false := by rw [beq_eq_false_iff_ne, hop]; decide
  have d2 : (x.op == 2) = true := by rw [hop]; rfl
  have hst := hid (fun w' (hx : Ext w w') => Pair2.stay (x := x) (X := X) (by rw [h]; decide) (by rw [h]; decide) hP hR hD hx)
  have hst' := hst
  have hPx := hid (fun w' (hx : Ext w w') => hP.ext hx)
  have hRx := hid (fun w' (hx : Ext w w') => (hR.ext hx).rt)
  have hsr := hid hP.sr
  obtain ⟨k, hk⟩ : ∃ k, Hid (k = rankT L ⟨x.s, x.a⟩) := ⟨_, rfl⟩
  have hC1 : Hid (∀ w', Ext w w' → Calls Tryz.prog 17 #[.pointer (some ⟨t, 0, none⟩), .string x.s, .int .i64 x.a] w' (Give (.int .i64 k) w')) := fun w' hx => by
    obtain ⟨p, fT, H, -⟩ := hPx.out w' hx
    rw [hk.out]
    exact Rank_any t L X.1 p X.2 fT x.s x.a w' H
  have hC2 := hid (fun w' (hx : Ext w w') => rRank_any r L x.s x.a w' (hRx.out w' hx) hsr.out (by omega) k hk)
  clear hk hPx hRx hst'
  have hx1 := hid ((Ext.refl w).alloc_right (.cells #[.int .i64 x.op, .int .i64 x.a, .int .i64 x.b, .int .i64 x.c, .string x.s, .string x.t] 34))
  have ha := heap_alloc_new w (.cells #[.int .i64 x.op, .int .i64 x.a, .int .i64 x.b, .int .i64 x.c, .string x.s, .string x.t] 34)
  have z0 : (w.alloc (.cells #[.int .i64 x.op, .int .i64 x.a, .int .i64 x.b, .int .i64 x.c, .string x.s, .string x.t] 34)).cell? ⟨w.heap.size, 0, none⟩ = some (.int .i64 x.op) := by rw [Lib.cell_of_heap ha]; rfl
  have z1 : (w.alloc (.cells #[.int .i64 x.op, .int .i64 x.a, .int .i64 x.b, .int .i64 x.c, .string x.s, .string x.t] 34)).cell? ⟨w.heap.size, 1, none⟩ = some (.int .i64 x.a) := by rw [Lib.cell_of_heap ha]; rfl
  have z4 : (w.alloc (.cells #[.int .i64 x.op, .int .i64 x.a, .int .i64 x.b, .int .i64 x.c, .string x.s, .string x.t] 34)).cell? ⟨w.heap.size, 4, none⟩ = some (.string x.s) := by rw [Lib.cell_of_heap ha]; rfl
  have z5 : (w.alloc (.cells #[.int .i64 x.op, .int .i64 x.a, .int .i64 x.b, .int .i64 x.c, .string x.s, .string x.t] 34)).cell? ⟨w.heap.size, 5, none⟩ = some (.string x.t) := by rw [Lib.cell_of_heap ha]; rfl
  have lb := (Array.getElem?_eq_some_iff.1 ha).1
  clear ha
  clear hop h
  clear hP hR hD
  go_enter Tryz.func8, Tryz.ntmps8
  go_upto_region 1 with fail
  obtain ⟨b, hb⟩ : ∃ b, b = w.heap.size := ⟨_, rfl⟩
  rw [← hb] at z0 z1 z4 z5 lb
  simp only [← hb]
  replace hb := hid hb
  generalize w.alloc (.cells #[.int .i64 x.op, .int .i64 x.a, .int .i64 x.b, .int .i64 x.c, .string x.s, .string x.t] 34) = W1 at *
  go_upto_region 7 with fail
  have I0 : (fun w' : World => w'.cell? ⟨b, 1, none⟩ = some (.int .i64 x.a) ∧ w'.cell? ⟨b, 4, none⟩ = some (.string x.s) ∧ w'.cell? ⟨b, 5, none⟩ = some (.string x.t)) W1.drew := ⟨z1, z4, z5⟩
  refine region_J (fun w' : World => w'.cell? ⟨b, 1, none⟩ = some (.int .i64 x.a) ∧ w'.cell? ⟨b, 4, none⟩ = some (.string x.s) ∧ w'.cell? ⟨b, 5, none⟩ = some (.string x.t)) 14 (by kernel_rfl) ?_
  replace hx1 := hid (hx1.out.drew_right)
  clear z0 z1 z4 z5 lb
  generalize W1.drew = W1 at *
  refine J_takeO 0 (v := ?vc0) rfl (by kernel_rfl) (by kernel_rfl) (by kernel_rfl) (by kernel_rfl) (fun _ _ _ h => h) (Or.inl ⟨by rfl, ?yc0⟩) I0 ?rc0
  case yc0 => (intro w hSw; obtain ⟨_, _, _⟩ := hSw; (go_simp; with_reducible rfl))
  simp only [Act.put, List.getElem_toArray, List.getElem_cons_zero, List.getElem_cons_succ, List.setIfInBounds_toArray, List.set_cons_zero, List.set_cons_succ]
  refine J_takeO 1 (v := ?vc1) rfl (by kernel_rfl) (by kernel_rfl) (by kernel_rfl) (by kernel_rfl) (fun _ _ _ h => h) (Or.inl ⟨by rfl, ?yc1⟩) I0 ?rc1
  case yc1 => (intro w hSw; obtain ⟨_, _, _⟩ := hSw; (go_simp; with_reducible rfl))
  simp only [Act.put, List.getElem_toArray, List.getElem_cons_zero, List.getElem_cons_succ, List.setIfInBounds_toArray, List.set_cons_zero, List.set_cons_succ]
  refine J_takeO 2 (v := ?vc2) rfl (by kernel_rfl) (by kernel_rfl) (by kernel_rfl) (by kernel_rfl) (fun _ _ _ h => h) (Or.inl ⟨by rfl, ?yc2⟩) I0 ?rc2
  case yc2 => (intro w hSw; obtain ⟨_, _, _⟩ := hSw; (go_simp; with_reducible rfl))
  simp only [Act.put, List.getElem_toArray, List.getElem_cons_zero, List.getElem_cons_succ, List.setIfInBounds_toArray, List.set_cons_zero, List.set_cons_succ]
  refine J_takeO 3 (v := ?vc3) rfl (by kernel_rfl) (by kernel_rfl) (by kernel_rfl) (by kernel_rfl) (fun _ _ _ h => h) (Or.inl ⟨by rfl, ?yc3⟩) I0 ?rc3
  case yc3 => (intro w hSw; obtain ⟨_, _, _⟩ := hSw; (go_simp; with_reducible rfl))
  simp only [Act.put, List.getElem_toArray, List.getElem_cons_zero, List.getElem_cons_succ, List.setIfInBounds_toArray, List.set_cons_zero, List.set_cons_succ]
  refine J_takeO 4 (v := ?vc4) rfl (by kernel_rfl) (by kernel_rfl) (by kernel_rfl) (by kernel_rfl) (fun _ _ _ h => h) (Or.inl ⟨by rfl, ?yc4⟩) I0 ?rc4
  case yc4 => (intro w hSw; obtain ⟨_, _, _⟩ := hSw; (go_simp; with_reducible rfl))
  simp only [Act.put, List.getElem_toArray, List.getElem_cons_zero, List.getElem_cons_succ, List.setIfInBounds_toArray, List.set_cons_zero, List.set_cons_succ]
  refine J_takeO 6 (v := ?vc6) rfl (by kernel_rfl) (by kernel_rfl) (by kernel_rfl) (by kernel_rfl) (fun _ _ _ h => h) (Or.inl ⟨by rfl, ?yc6⟩) I0 ?rc6
  case yc6 => (intro w hSw; obtain ⟨_, _, _⟩ := hSw; (go_simp; with_reducible rfl))
  simp only [Act.put, List.getElem_toArray, List.getElem_cons_zero, List.getElem_cons_succ, List.setIfInBounds_toArray, List.set_cons_zero, List.set_cons_succ]
  refine J_takeO 7 (v := ?vc7) rfl (by kernel_rfl) (by kernel_rfl) (by kernel_rfl) (by kernel_rfl) (fun _ _ _ h => h) (Or.inl ⟨by rfl, ?yc7⟩) I0 ?rc7
  case yc7 => (intro w hSw; obtain ⟨_, _, _⟩ := hSw; (go_simp; with_reducible rfl))
  simp only [Act.put, List.getElem_toArray, List.getElem_cons_zero, List.getElem_cons_succ, List.setIfInBounds_toArray, List.set_cons_zero, List.set_cons_succ]
  refine J_takeO 8 (v := ?vc8) rfl (by kernel_rfl) (by kernel_rfl) (by kernel_rfl) (by kernel_rfl) (fun _ _ _ h => h) (Or.inl ⟨by rfl, ?yc8⟩) I0 ?rc8
  case yc8 => (intro w hSw; obtain ⟨_, _, _⟩ := hSw; (go_simp; with_reducible rfl))
  simp only [Act.put, List.getElem_toArray, List.getElem_cons_zero, List.getElem_cons_succ, List.setIfInBounds_toArray, List.set_cons_zero, List.set_cons_succ]
  refine J_takeO 9 (v := ?vc9) rfl (by kernel_rfl) (by kernel_rfl) (by kernel_rfl) (by kernel_rfl) (fun _ _ _ h => h) (Or.inl ⟨by rfl, ?yc9⟩) I0 ?rc9
  case yc9 => (intro w hSw; obtain ⟨_, _, _⟩ := hSw; (go_simp; with_reducible rfl))
  simp only [Act.put, List.getElem_toArray, List.getElem_cons_zero, List.getElem_cons_succ, List.setIfInBounds_toArray, List.set_cons_zero, List.set_cons_succ]
  refine J_takeO 10 (v := ?vc10) rfl (by kernel_rfl) (by kernel_rfl) (by kernel_rfl) (by kernel_rfl) (fun _ _ _ h => h) (Or.inl ⟨by rfl, ?yc10⟩) I0 ?rc10
  case yc10 => (intro w hSw; obtain ⟨_, _, _⟩ := hSw; (go_simp; with_reducible rfl))
  simp only [Act.put, List.getElem_toArray, List.getElem_cons_zero, List.getElem_cons_succ, List.setIfInBounds_toArray, List.set_cons_zero, List.set_cons_succ]
  refine J_one 5 rfl (by kernel_rfl) (fun K hK => ?_)
  go_simp
  refine (hC1.out W1 hx1.out).mono ?_
  rintro e w2 ⟨rfl, hx2⟩
  replace hx1 := hid (hx1.out.trans hx2)
  have I2 : (fun w' : World => w'.cell? ⟨b, 1, none⟩ = some (.int .i64 x.a) ∧ w'.cell? ⟨b, 4, none⟩ = some (.string x.s) ∧ w'.cell? ⟨b, 5, none⟩ = some (.string x.t)) w2 := ⟨hx2.cell I0.1, hx2.cell I0.2.1, hx2.cell I0.2.2⟩
  clear hx2
  refine hK _ _ ⟨fun _ => I2, ?_⟩
  clear hK K
  try simp only [Act.put, List.getElem_toArray, List.getElem_cons_zero, List.getElem_cons_succ, List.setIfInBounds_toArray, List.set_cons_zero, List.set_cons_succ]
  refine J_one 11 rfl (by kernel_rfl) (fun K hK => ?_)
  go_simp
  refine (hC2.out w2 hx1.out).mono ?_
  rintro e w3 ⟨rfl, hx3⟩
  replace hx1 := hid (hx1.out.trans hx3)
  have I3 : (fun w' : World => w'.cell? ⟨b, 1, none⟩ = some (.int .i64 x.a) ∧ w'.cell? ⟨b, 4, none⟩ = some (.string x.s) ∧ w'.cell? ⟨b, 5, none⟩ = some (.string x.t)) w3 := ⟨hx3.cell I2.1, hx3.cell I2.2.1, hx3.cell I2.2.2⟩
  clear hx3
  refine hK _ _ ⟨fun _ => I3, ?_⟩
  clear hK K
  try simp only [Act.put, List.getElem_toArray, List.getElem_cons_zero, List.getElem_cons_succ, List.setIfInBounds_toArray, List.set_cons_zero, List.set_cons_succ]
  refine J_one 12 rfl (by kernel_rfl) (fun K hK => ?_)
  go_simp
  refine hK _ _ ⟨fun _ => I3, ?_⟩
  clear hK K
  try simp only [Act.put, List.setIfInBounds_toArray, List.set_cons_zero, List.set_cons_succ]
  refine J_one 13 rfl (by kernel_rfl) (fun K hK => ?_)
  go_simp
  refine hK _ _ ⟨fun _ => I3, ?_⟩
  clear hK K
  try simp only [Act.put, List.setIfInBounds_toArray, List.set_cons_zero, List.set_cons_succ]
  refine J_done (by kernel_rfl) (OnlyOn.normal ?_)
  go_wp2
  go_ret
  exact ⟨rfl, hst.out _ hx1.out⟩
set_option maxRecDepth 100000 in
set_option maxHeartbeats 4000000 in
theorem play_8 (t r : Nat) (x : Ac) (L : List Te) (X : Nat × BT) (F G : Nat → Nat) (w : World) (hP : PTo w t L X F) (hR : RTo w r L G) (hD : Dj F G) (hl : L.length ≤ 1200) (h : x.op = 8) : Calls Tryz.prog 8 #[.pointer (some ⟨t, 0, none⟩), .pointer (some ⟨r, 0, none⟩), .agg #[.int .i64 x.op, .int .i64 x.a, .int .i64 x.b, .int .i64 x.c, .string x.s, .string x.t]] w (GivePl x L X F G t r w) := by
  have hop : x.op = 8 := h
  have d0 : (x.op == 0) = false := by rw [beq_eq_false_iff_ne, hop]; decide
  have d1 : (x.op == 1) = false := by rw [beq_eq_false_iff_ne, hop]; decide
  have d2 : (x.op == 2) = false := by rw [beq_eq_false_iff_ne, hop]; decide
  have d3 : (x.op == 3) = false := by rw [beq_eq_false_iff_ne, hop]; decide
  have d4 : (x.op == 4) = false := by rw [beq_eq_false_iff_ne, hop]; decide
  have d5 : (x.op == 5) = false := by rw [beq_eq_false_iff_ne, hop]; decide
  have d6 : (x.op == 6) = false := by rw [beq_eq_false_iff_ne, hop]; decide
  have d7 : (x.op == 7) = false := by rw [beq_eq_false_iff_ne, hop]; decide
  have d8 : (x.op == 8) = true := by rw [hop]; rfl
  have hst := hid (fun w' (hx : Ext w w') => Pair2.stay (x := x) (X := X) (by rw [h]; decide) (by rw [h]; decide) hP hR hD hx)
  have hst' := hst
  have hPx := hid (fun w' (hx : Ext w w') => hP.ext hx)
  have hRx := hid (fun w' (hx : Ext w w') => (hR.ext hx).rt)
  have hsr := hid hP.sr
  obtain ⟨l, hl2⟩ : ∃ l, Hid (l = betwT L x.s x.t) := ⟨_, rfl⟩
  have hC1 : Hid (∀ w', Ext w w' → Calls Tryz.prog 36 #[.pointer (some ⟨t, 0, none⟩), .string x.s, .string x.t] w' (Give (.int .i64 l.length) w')) := fun w' hx => by
    obtain ⟨p, fT, H, -⟩ := hPx.out w' hx
    exact Count_any t L X.1 p X.2 fT x.s x.t w' H l hl2
  have hC2 := hid (fun w' (hx : Ext w w') => rCount_any r L x.s x.t w' (hRx.out w' hx) hsr.out (by omega) l hl2)
  clear hl2 hPx hRx hst'
  have hx1 := hid ((Ext.refl w).alloc_right (.cells #[.int .i64 x.op, .int .i64 x.a, .int .i64 x.b, .int .i64 x.c, .string x.s, .string x.t] 34))
  have ha := heap_alloc_new w (.cells #[.int .i64 x.op, .int .i64 x.a, .int .i64 x.b, .int .i64 x.c, .string x.s, .string x.t] 34)
  have z0 : (w.alloc (.cells #[.int .i64 x.op, .int .i64 x.a, .int .i64 x.b, .int .i64 x.c, .string x.s, .string x.t] 34)).cell? ⟨w.heap.size, 0, none⟩ = some (.int .i64 x.op) := by rw [Lib.cell_of_heap ha]; rfl
  have z1 : (w.alloc (.cells #[.int .i64 x.op, .int .i64 x.a, .int .i64 x.b, .int .i64 x.c, .string x.s, .string x.t] 34)).cell? ⟨w.heap.size, 1, none⟩ = some (.int .i64 x.a) := by rw [Lib.cell_of_heap ha]; rfl
  have z4 : (w.alloc (.cells #[.int .i64 x.op, .int .i64 x.a, .int .i64 x.b, .int .i64 x.c, .string x.s, .string x.t] 34)).cell? ⟨w.heap.size, 4, none⟩ = some (.string x.s) := by rw [Lib.cell_of_heap ha]; rfl
  have z5 : (w.alloc (.cells #[.int .i64 x.op, .int .i64 x.a, .int .i64 x.b, .int .i64 x.c, .string x.s, .string x.t] 34)).cell? ⟨w.heap.size, 5, none⟩ = some (.string x.t) := by rw [Lib.cell_of_heap ha]; rfl
  have lb := (Array.getElem?_eq_some_iff.1 ha).1
  clear ha
  clear hop h
  clear hP hR hD
  go_enter Tryz.func8, Tryz.ntmps8
  go_upto_region 1 with fail
  obtain ⟨b, hb⟩ : ∃ b, b = w.heap.size := ⟨_, rfl⟩
  rw [← hb] at z0 z1 z4 z5 lb
  simp only [← hb]
  replace hb := hid hb
  generalize w.alloc (.cells #[.int .i64 x.op, .int .i64 x.a, .int .i64 x.b, .int .i64 x.c, .string x.s, .string x.t] 34) = W1 at *
  go_upto_region 29 with fail
  have I0 : (fun w' : World => w'.cell? ⟨b, 1, none⟩ = some (.int .i64 x.a) ∧ w'.cell? ⟨b, 4, none⟩ = some (.string x.s) ∧ w'.cell? ⟨b, 5, none⟩ = some (.string x.t)) W1.drew := ⟨z1, z4, z5⟩
  refine region_J (fun w' : World => w'.cell? ⟨b, 1, none⟩ = some (.int .i64 x.a) ∧ w'.cell? ⟨b, 4, none⟩ = some (.string x.s) ∧ w'.cell? ⟨b, 5, none⟩ = some (.string x.t)) 14 (by kernel_rfl) ?_
  replace hx1 := hid (hx1.out.drew_right)
  clear z0 z1 z4 z5 lb
  generalize W1.drew = W1 at *
  refine J_takeO 0 (v := ?vc0) rfl (by kernel_rfl) (by kernel_rfl) (by kernel_rfl) (by kernel_rfl) (fun _ _ _ h => h) (Or.inl ⟨by rfl, ?yc0⟩) I0 ?rc0
  case yc0 => (intro w hSw; obtain ⟨_, _, _⟩ := hSw; (go_simp; with_reducible rfl))
  simp only [Act.put, List.getElem_toArray, List.getElem_cons_zero, List.getElem_cons_succ, List.setIfInBounds_toArray, List.set_cons_zero, List.set_cons_succ]
  refine J_takeO 1 (v := ?vc1) rfl (by kernel_rfl) (by kernel_rfl) (by kernel_rfl) (by kernel_rfl) (fun _ _ _ h => h) (Or.inl ⟨by rfl, ?yc1⟩) I0 ?rc1
  case yc1 => (intro w hSw; obtain ⟨_, _, _⟩ := hSw; (go_simp; with_reducible rfl))
  simp only [Act.put, List.getElem_toArray, List.getElem_cons_zero, List.getElem_cons_succ, List.setIfInBounds_toArray, List.set_cons_zero, List.set_cons_succ]
  refine J_takeO 2 (v := ?vc2) rfl (by kernel_rfl) (by kernel_rfl) (by kernel_rfl) (by kernel_rfl) (fun _ _ _ h => h) (Or.inl ⟨by rfl, ?yc2⟩) I0 ?rc2
  case yc2 => (intro w hSw; obtain ⟨_, _, _⟩ := hSw; (go_simp; with_reducible rfl))
  simp only [Act.put, List.getElem_toArray, List.getElem_cons_zero, List.getElem_cons_succ, List.setIfInBounds_toArray, List.set_cons_zero, List.set_cons_succ]
  refine J_takeO 3 (v := ?vc3) rfl (by kernel_rfl) (by kernel_rfl) (by kernel_rfl) (by kernel_rfl) (fun _ _ _ h => h) (Or.inl ⟨by rfl, ?yc3⟩) I0 ?rc3
  case yc3 => (intro w hSw; obtain ⟨_, _, _⟩ := hSw; (go_simp; with_reducible rfl))
  simp only [Act.put, List.getElem_toArray, List.getElem_cons_zero, List.getElem_cons_succ, List.setIfInBounds_toArray, List.set_cons_zero, List.set_cons_succ]
  refine J_takeO 4 (v := ?vc4) rfl (by kernel_rfl) (by kernel_rfl) (by kernel_rfl) (by kernel_rfl) (fun _ _ _ h => h) (Or.inl ⟨by rfl, ?yc4⟩) I0 ?rc4
  case yc4 => (intro w hSw; obtain ⟨_, _, _⟩ := hSw; (go_simp; with_reducible rfl))
  simp only [Act.put, List.getElem_toArray, List.getElem_cons_zero, List.getElem_cons_succ, List.setIfInBounds_toArray, List.set_cons_zero, List.set_cons_succ]
  refine J_takeO 6 (v := ?vc6) rfl (by kernel_rfl) (by kernel_rfl) (by kernel_rfl) (by kernel_rfl) (fun _ _ _ h => h) (Or.inl ⟨by rfl, ?yc6⟩) I0 ?rc6
  case yc6 => (intro w hSw; obtain ⟨_, _, _⟩ := hSw; (go_simp; with_reducible rfl))
  simp only [Act.put, List.getElem_toArray, List.getElem_cons_zero, List.getElem_cons_succ, List.setIfInBounds_toArray, List.set_cons_zero, List.set_cons_succ]
  refine J_takeO 7 (v := ?vc7) rfl (by kernel_rfl) (by kernel_rfl) (by kernel_rfl) (by kernel_rfl) (fun _ _ _ h => h) (Or.inl ⟨by rfl, ?yc7⟩) I0 ?rc7
  case yc7 => (intro w hSw; obtain ⟨_, _, _⟩ := hSw; (go_simp; with_reducible rfl))
  simp only [Act.put, List.getElem_toArray, List.getElem_cons_zero, List.getElem_cons_succ, List.setIfInBounds_toArray, List.set_cons_zero, List.set_cons_succ]
  refine J_takeO 8 (v := ?vc8) rfl (by kernel_rfl) (by kernel_rfl) (by kernel_rfl) (by kernel_rfl) (fun _ _ _ h => h) (Or.inl ⟨by rfl, ?yc8⟩) I0 ?rc8
  case yc8 => (intro w hSw; obtain ⟨_, _, _⟩ := hSw; (go_simp; with_reducible rfl))
  simp only [Act.put, List.getElem_toArray, List.getElem_cons_zero, List.getElem_cons_succ, List.setIfInBounds_toArray, List.set_cons_zero, List.set_cons_succ]
  refine J_takeO 9 (v := ?vc9) rfl (by kernel_rfl) (by kernel_rfl) (by kernel_rfl) (by kernel_rfl) (fun _ _ _ h => h) (Or.inl ⟨by rfl, ?yc9⟩) I0 ?rc9
  case yc9 => (intro w hSw; obtain ⟨_, _, _⟩ := hSw; (go_simp; with_reducible rfl))
  simp only [Act.put, List.getElem_toArray, List.getElem_cons_zero, List.getElem_cons_succ, List.setIfInBounds_toArray, List.set_cons_zero, List.set_cons_succ]
  refine J_takeO 10 (v := ?vc10) rfl (by kernel_rfl) (by kernel_rfl) (by kernel_rfl) (by kernel_rfl) (fun _ _ _ h => h) (Or.inl ⟨by rfl, ?yc10⟩) I0 ?rc10
  case yc10 => (intro w hSw; obtain ⟨_, _, _⟩ := hSw; (go_simp; with_reducible rfl))
  simp only [Act.put, List.getElem_toArray, List.getElem_cons_zero, List.getElem_cons_succ, List.setIfInBounds_toArray, List.set_cons_zero, List.set_cons_succ]
  refine J_one 5 rfl (by kernel_rfl) (fun K hK => ?_)
  go_simp
  refine (hC1.out W1 hx1.out).mono ?_
  rintro e w2 ⟨rfl, hx2⟩
  replace hx1 := hid (hx1.out.trans hx2)
  have I2 : (fun w' : World => w'.cell? ⟨b, 1, none⟩ = some (.int .i64 x.a) ∧ w'.cell? ⟨b, 4, none⟩ = some (.string x.s) ∧ w'.cell? ⟨b, 5, none⟩ = some (.string x.t)) w2 := ⟨hx2.cell I0.1, hx2.cell I0.2.1, hx2.cell I0.2.2⟩
  clear hx2
  refine hK _ _ ⟨fun _ => I2, ?_⟩
  clear hK K
  try simp only [Act.put, List.getElem_toArray, List.getElem_cons_zero, List.getElem_cons_succ, List.setIfInBounds_toArray, List.set_cons_zero, List.set_cons_succ]
  refine J_one 11 rfl (by kernel_rfl) (fun K hK => ?_)
  go_simp
  refine (hC2.out w2 hx1.out).mono ?_
  rintro e w3 ⟨rfl, hx3⟩
  replace hx1 := hid (hx1.out.trans hx3)
  have I3 : (fun w' : World => w'.cell? ⟨b, 1, none⟩ = some (.int .i64 x.a) ∧ w'.cell? ⟨b, 4, none⟩ = some (.string x.s) ∧ w'.cell? ⟨b, 5, none⟩ = some (.string x.t)) w3 := ⟨hx3.cell I2.1, hx3.cell I2.2.1, hx3.cell I2.2.2⟩
  clear hx3
  refine hK _ _ ⟨fun _ => I3, ?_⟩
  clear hK K
  try simp only [Act.put, List.getElem_toArray, List.getElem_cons_zero, List.getElem_cons_succ, List.setIfInBounds_toArray, List.set_cons_zero, List.set_cons_succ]
  refine J_one 12 rfl (by kernel_rfl) (fun K hK => ?_)
  go_simp
  refine hK _ _ ⟨fun _ => I3, ?_⟩
  clear hK K
  try simp only [Act.put, List.setIfInBounds_toArray, List.set_cons_zero, List.set_cons_succ]
  refine J_one 13 rfl (by kernel_rfl) (fun K hK => ?_)
  go_simp
  refine hK _ _ ⟨fun _ => I3, ?_⟩
  clear hK K
  try simp only [Act.put, List.setIfInBounds_toArray, List.set_cons_zero, List.set_cons_succ]
  refine J_done (by kernel_rfl) (OnlyOn.normal ?_)
  go_wp2
  go_ret
  exact ⟨rfl, hst.out _ hx1.out⟩
set_option maxRecDepth 100000 in
set_option maxHeartbeats 4000000 in
theorem play_3 (t r : Nat) (x : Ac) (L : List Te) (X : Nat × BT) (F G : Nat → Nat) (w : World) (hP : PTo w t L X F) (hR : RTo w r L G) (hD : Dj F G) (hl : L.length ≤ 1200) (h : x.op = 3) : Calls Tryz.prog 8 #[.pointer (some ⟨t, 0, none⟩), .pointer (some ⟨r, 0, none⟩), .agg #[.int .i64 x.op, .int .i64 x.a, .int .i64 x.b, .int .i64 x.c, .string x.s, .string x.t]] w (GivePl x L X F G t r w) := by
  have hop : x.op = 3 := h
  have d0 : (x.op == 0) = false := by rw [beq_eq_false_iff_ne, hop]; decide
  have d1 : (x.op == 1) = false := by rw [beq_eq_false_iff_ne, hop]; decide
  have d2 : (x.op == 2) = false := by rw [beq_eq_false_iff_ne, hop]; decide
  have d3 : (x.op == 3) = true := by rw [hop]; rfl
  have hst := hid (fun w' (hx : Ext w w') => Pair2.stay (x := x) (X := X) (by rw [h]; decide) (by rw [h]; decide) hP hR hD hx)
  obtain ⟨o, ho⟩ : ∃ o, Hid (o = atT L x.a) := ⟨_, rfl⟩
  have hC1 : Hid (∀ w', Ext w w' → Calls Tryz.prog 23 #[.pointer (some ⟨t, 0, none⟩), .int .i64 x.a] w' (Give (TV o) w')) := fun w' hx => by
    obtain ⟨p, fT, H, -⟩ := hP.ext hx
    exact At_any t L X.1 p X.2 fT x.a w' H o ho
  have hsr := hid hP.sr
  have hC2 := hid (fun w' (hx : Ext w w') => rAt_any r L x.a w' (hR.ext hx).rt o ho)
  clear ho hsr
  have hx1 := hid ((Ext.refl w).alloc_right (.cells #[.int .i64 x.op, .int .i64 x.a, .int .i64 x.b, .int .i64 x.c, .string x.s, .string x.t] 34))
  have ha := heap_alloc_new w (.cells #[.int .i64 x.op, .int .i64 x.a, .int .i64 x.b, .int .i64 x.c, .string x.s, .string x.t] 34)
  have z0 : (w.alloc (.cells #[.int .i64 x.op, .int .i64 x.a, .int .i64 x.b, .int .i64 x.c, .string x.s, .string x.t] 34)).cell? ⟨w.heap.size, 0, none⟩ = some (.int .i64 x.op) := by rw [Lib.cell_of_heap ha]; rfl
  have z1 : (w.alloc (.cells #[.int .i64 x.op, .int .i64 x.a, .int .i64 x.b, .int .i64 x.c, .string x.s, .string x.t] 34)).cell? ⟨w.heap.size, 1, none⟩ = some (.int .i64 x.a) := by rw [Lib.cell_of_heap ha]; rfl
  have z4 : (w.alloc (.cells #[.int .i64 x.op, .int .i64 x.a, .int .i64 x.b, .int .i64 x.c, .string x.s, .string x.t] 34)).cell? ⟨w.heap.size, 4, none⟩ = some (.string x.s) := by rw [Lib.cell_of_heap ha]; rfl
  have z5 : (w.alloc (.cells #[.int .i64 x.op, .int .i64 x.a, .int .i64 x.b, .int .i64 x.c, .string x.s, .string x.t] 34)).cell? ⟨w.heap.size, 5, none⟩ = some (.string x.t) := by rw [Lib.cell_of_heap ha]; rfl
  have lb := (Array.getElem?_eq_some_iff.1 ha).1
  clear ha
  clear hop h
  clear hP hR hD
  go_enter Tryz.func8, Tryz.ntmps8
  go_upto_region 1 with fail
  obtain ⟨b, hb⟩ : ∃ b, b = w.heap.size := ⟨_, rfl⟩
  rw [← hb] at z0 z1 z4 z5 lb
  simp only [← hb]
  replace hb := hid hb
  generalize w.alloc (.cells #[.int .i64 x.op, .int .i64 x.a, .int .i64 x.b, .int .i64 x.c, .string x.s, .string x.t] 34) = W1 at *
  go_wp2_with fail
  refine (hC1.out W1 hx1.out).mono ?_
  rintro e w2 ⟨rfl, hx2⟩
  replace z1 := hx2.cell z1
  replace z4 := hx2.cell z4
  replace lb := Nat.lt_of_lt_of_le lb hx2.size
  replace hx1 := hid (hx1.out.trans hx2)
  clear hx2 z0 z5
  cases o with
  | none =>
    simp only [TV]
    go_wp2_with fail
    refine (hC2.out w2 hx1.out).mono ?_
    rintro e w3 ⟨rfl, hx3⟩
    replace hx1 := hid (hx1.out.trans hx3)
    simp only [TV]
    clear hx3 z1 z4 lb
    go_wp2_with fail
    refine (found_any _ _ _ _).mono ?_
    rintro e w4 ⟨rfl, rfl⟩
    go_wp2
    go_ret
    exact ⟨rfl, hst.out _ hx1.out⟩
  | some y =>
    simp only [TV]
    go_wp2_with fail
    refine (hC2.out w2 hx1.out).mono ?_
    rintro e w3 ⟨rfl, hx3⟩
    replace hx1 := hid (hx1.out.trans hx3)
    simp only [TV]
    clear hx3 z1 z4 lb
    go_wp2_with fail
    refine (found_any _ _ _ _).mono ?_
    rintro e w4 ⟨rfl, rfl⟩
    go_wp2
    go_ret
    exact ⟨rfl, hst.out _ hx1.out⟩
set_option maxRecDepth 100000 in
set_option maxHeartbeats 4000000 in
theorem play_4 (t r : Nat) (x : Ac) (L : List Te) (X : Nat × BT) (F G : Nat → Nat) (w : World) (hP : PTo w t L X F) (hR : RTo w r L G) (hD : Dj F G) (hl : L.length ≤ 1200) (h : x.op = 4) : Calls Tryz.prog 8 #[.pointer (some ⟨t, 0, none⟩), .pointer (some ⟨r, 0, none⟩), .agg #[.int .i64 x.op, .int .i64 x.a, .int .i64 x.b, .int .i64 x.c, .string x.s, .string x.t]] w (GivePl x L X F G t r w) := by
  have hop : x.op = 4 := h
  have d0 : (x.op == 0) = false := by rw [beq_eq_false_iff_ne, hop]; decide
  have d1 : (x.op == 1) = false := by rw [beq_eq_false_iff_ne, hop]; decide
  have d2 : (x.op == 2) = false := by rw [beq_eq_false_iff_ne, hop]; decide
  have d3 : (x.op == 3) = false := by rw [beq_eq_false_iff_ne, hop]; decide
  have d4 : (x.op == 4) = true := by rw [hop]; rfl
  have hst := hid (fun w' (hx : Ext w w') => Pair2.stay (x := x) (X := X) (by rw [h]; decide) (by rw [h]; decide) hP hR hD hx)
  obtain ⟨o, ho⟩ : ∃ o, Hid (o = L[keyR L x.s]?) := ⟨_, rfl⟩
  have hC1 : Hid (∀ w', Ext w w' → Calls Tryz.prog 26 #[.pointer (some ⟨t, 0, none⟩), .string x.s] w' (Give (TV o) w')) := fun w' hx => by
    obtain ⟨p, fT, H, -⟩ := hP.ext hx
    exact Seek_any t L X.1 p X.2 fT x.s w' H o ho
  have hsr := hid hP.sr
  have hC2 := hid (fun w' (hx : Ext w w') => rSeek_any r L x.s w' (hR.ext hx).rt (by omega) o ho)
  clear ho hsr
  have hx1 := hid ((Ext.refl w).alloc_right (.cells #[.int .i64 x.op, .int .i64 x.a, .int .i64 x.b, .int .i64 x.c, .string x.s, .string x.t] 34))
  have ha := heap_alloc_new w (.cells #[.int .i64 x.op, .int .i64 x.a, .int .i64 x.b, .int .i64 x.c, .string x.s, .string x.t] 34)
  have z0 : (w.alloc (.cells #[.int .i64 x.op, .int .i64 x.a, .int .i64 x.b, .int .i64 x.c, .string x.s, .string x.t] 34)).cell? ⟨w.heap.size, 0, none⟩ = some (.int .i64 x.op) := by rw [Lib.cell_of_heap ha]; rfl
  have z1 : (w.alloc (.cells #[.int .i64 x.op, .int .i64 x.a, .int .i64 x.b, .int .i64 x.c, .string x.s, .string x.t] 34)).cell? ⟨w.heap.size, 1, none⟩ = some (.int .i64 x.a) := by rw [Lib.cell_of_heap ha]; rfl
  have z4 : (w.alloc (.cells #[.int .i64 x.op, .int .i64 x.a, .int .i64 x.b, .int .i64 x.c, .string x.s, .string x.t] 34)).cell? ⟨w.heap.size, 4, none⟩ = some (.string x.s) := by rw [Lib.cell_of_heap ha]; rfl
  have z5 : (w.alloc (.cells #[.int .i64 x.op, .int .i64 x.a, .int .i64 x.b, .int .i64 x.c, .string x.s, .string x.t] 34)).cell? ⟨w.heap.size, 5, none⟩ = some (.string x.t) := by rw [Lib.cell_of_heap ha]; rfl
  have lb := (Array.getElem?_eq_some_iff.1 ha).1
  clear ha
  clear hop h
  clear hP hR hD
  go_enter Tryz.func8, Tryz.ntmps8
  go_upto_region 1 with fail
  obtain ⟨b, hb⟩ : ∃ b, b = w.heap.size := ⟨_, rfl⟩
  rw [← hb] at z0 z1 z4 z5 lb
  simp only [← hb]
  replace hb := hid hb
  generalize w.alloc (.cells #[.int .i64 x.op, .int .i64 x.a, .int .i64 x.b, .int .i64 x.c, .string x.s, .string x.t] 34) = W1 at *
  go_wp2_with fail
  refine (hC1.out W1 hx1.out).mono ?_
  rintro e w2 ⟨rfl, hx2⟩
  replace z1 := hx2.cell z1
  replace z4 := hx2.cell z4
  replace lb := Nat.lt_of_lt_of_le lb hx2.size
  replace hx1 := hid (hx1.out.trans hx2)
  clear hx2 z0 z5
  cases o with
  | none =>
    simp only [TV]
    go_wp2_with fail
    refine (hC2.out w2 hx1.out).mono ?_
    rintro e w3 ⟨rfl, hx3⟩
    replace hx1 := hid (hx1.out.trans hx3)
    simp only [TV]
    clear hx3 z1 z4 lb
    go_wp2_with fail
    refine (found_any _ _ _ _).mono ?_
    rintro e w4 ⟨rfl, rfl⟩
    go_wp2
    go_ret
    exact ⟨rfl, hst.out _ hx1.out⟩
  | some y =>
    simp only [TV]
    go_wp2_with fail
    refine (hC2.out w2 hx1.out).mono ?_
    rintro e w3 ⟨rfl, hx3⟩
    replace hx1 := hid (hx1.out.trans hx3)
    simp only [TV]
    clear hx3 z1 z4 lb
    go_wp2_with fail
    refine (found_any _ _ _ _).mono ?_
    rintro e w4 ⟨rfl, rfl⟩
    go_wp2
    go_ret
    exact ⟨rfl, hst.out _ hx1.out⟩
set_option maxRecDepth 100000 in
set_option maxHeartbeats 4000000 in
theorem play_5 (t r : Nat) (x : Ac) (L : List Te) (X : Nat × BT) (F G : Nat → Nat) (w : World) (hP : PTo w t L X F) (hR : RTo w r L G) (hD : Dj F G) (hl : L.length ≤ 1200) (h : x.op = 5) : Calls Tryz.prog 8 #[.pointer (some ⟨t, 0, none⟩), .pointer (some ⟨r, 0, none⟩), .agg #[.int .i64 x.op, .int .i64 x.a, .int .i64 x.b, .int .i64 x.c, .string x.s, .string x.t]] w (GivePl x L X F G t r w) := by
  have hop : x.op = 5 := h
  have d0 : (x.op == 0) = false := by rw [beq_eq_false_iff_ne, hop]; decide
  have d1 : (x.op == 1) = false := by rw [beq_eq_false_iff_ne, hop]; decide
  have d2 : (x.op == 2) = false := by rw [beq_eq_false_iff_ne, hop]; decide
  have d3 : (x.op == 3) = false := by rw [beq_eq_false_iff_ne, hop]; decide
  have d4 : (x.op == 4) = false := by rw [beq_eq_false_iff_ne, hop]; decide
  have d5 : (x.op == 5) = true := by rw [hop]; rfl
  have hst := hid (fun w' (hx : Ext w w') => Pair2.stay (x := x) (X := X) (by rw [h]; decide) (by rw [h]; decide) hP hR hD hx)
  obtain ⟨o, ho⟩ : ∃ o, Hid (o = L[nextR L ⟨x.s, x.a⟩]?) := ⟨_, rfl⟩
  have hC1 : Hid (∀ w', Ext w w' → Calls Tryz.prog 28 #[.pointer (some ⟨t, 0, none⟩), .string x.s, .int .i64 x.a] w' (Give (TV o) w')) := fun w' hx => by
    obtain ⟨p, fT, H, -⟩ := hP.ext hx
    exact Next_any t L X.1 p X.2 fT x.s x.a w' H o ho
  have hsr := hid hP.sr
  have hC2 := hid (fun w' (hx : Ext w w') => rNext_any r L x.s x.a w' (hR.ext hx).rt hsr.out (by omega) o ho)
  clear ho hsr
  have hx1 := hid ((Ext.refl w).alloc_right (.cells #[.int .i64 x.op, .int .i64 x.a, .int .i64 x.b, .int .i64 x.c, .string x.s, .string x.t] 34))
  have ha := heap_alloc_new w (.cells #[.int .i64 x.op, .int .i64 x.a, .int .i64 x.b, .int .i64 x.c, .string x.s, .string x.t] 34)
  have z0 : (w.alloc (.cells #[.int .i64 x.op, .int .i64 x.a, .int .i64 x.b, .int .i64 x.c, .string x.s, .string x.t] 34)).cell? ⟨w.heap.size, 0, none⟩ = some (.int .i64 x.op) := by rw [Lib.cell_of_heap ha]; rfl
  have z1 : (w.alloc (.cells #[.int .i64 x.op, .int .i64 x.a, .int .i64 x.b, .int .i64 x.c, .string x.s, .string x.t] 34)).cell? ⟨w.heap.size, 1, none⟩ = some (.int .i64 x.a) := by rw [Lib.cell_of_heap ha]; rfl
  have z4 : (w.alloc (.cells #[.int .i64 x.op, .int .i64 x.a, .int .i64 x.b, .int .i64 x.c, .string x.s, .string x.t] 34)).cell? ⟨w.heap.size, 4, none⟩ = some (.string x.s) := by rw [Lib.cell_of_heap ha]; rfl
  have z5 : (w.alloc (.cells #[.int .i64 x.op, .int .i64 x.a, .int .i64 x.b, .int .i64 x.c, .string x.s, .string x.t] 34)).cell? ⟨w.heap.size, 5, none⟩ = some (.string x.t) := by rw [Lib.cell_of_heap ha]; rfl
  have lb := (Array.getElem?_eq_some_iff.1 ha).1
  clear ha
  clear hop h
  clear hP hR hD
  go_enter Tryz.func8, Tryz.ntmps8
  go_upto_region 1 with fail
  obtain ⟨b, hb⟩ : ∃ b, b = w.heap.size := ⟨_, rfl⟩
  rw [← hb] at z0 z1 z4 z5 lb
  simp only [← hb]
  replace hb := hid hb
  generalize w.alloc (.cells #[.int .i64 x.op, .int .i64 x.a, .int .i64 x.b, .int .i64 x.c, .string x.s, .string x.t] 34) = W1 at *
  go_wp2_with fail
  refine (hC1.out W1 hx1.out).mono ?_
  rintro e w2 ⟨rfl, hx2⟩
  replace z1 := hx2.cell z1
  replace z4 := hx2.cell z4
  replace lb := Nat.lt_of_lt_of_le lb hx2.size
  replace hx1 := hid (hx1.out.trans hx2)
  clear hx2 z0 z5
  cases o with
  | none =>
    simp only [TV]
    go_wp2_with fail
    refine (hC2.out w2 hx1.out).mono ?_
    rintro e w3 ⟨rfl, hx3⟩
    replace hx1 := hid (hx1.out.trans hx3)
    simp only [TV]
    clear hx3 z1 z4 lb
    go_wp2_with fail
    refine (found_any _ _ _ _).mono ?_
    rintro e w4 ⟨rfl, rfl⟩
    go_wp2
    go_ret
    exact ⟨rfl, hst.out _ hx1.out⟩
  | some y =>
    simp only [TV]
    go_wp2_with fail
    refine (hC2.out w2 hx1.out).mono ?_
    rintro e w3 ⟨rfl, hx3⟩
    replace hx1 := hid (hx1.out.trans hx3)
    simp only [TV]
    clear hx3 z1 z4 lb
    go_wp2_with fail
    refine (found_any _ _ _ _).mono ?_
    rintro e w4 ⟨rfl, rfl⟩
    go_wp2
    go_ret
    exact ⟨rfl, hst.out _ hx1.out⟩
set_option maxRecDepth 100000 in
set_option maxHeartbeats 4000000 in
theorem play_6 (t r : Nat) (x : Ac) (L : List Te) (X : Nat × BT) (F G : Nat → Nat) (w : World) (hP : PTo w t L X F) (hR : RTo w r L G) (hD : Dj F G) (hl : L.length ≤ 1200) (h : x.op = 6) : Calls Tryz.prog 8 #[.pointer (some ⟨t, 0, none⟩), .pointer (some ⟨r, 0, none⟩), .agg #[.int .i64 x.op, .int .i64 x.a, .int .i64 x.b, .int .i64 x.c, .string x.s, .string x.t]] w (GivePl x L X F G t r w) := by
  have hop : x.op = 6 := h
  have d0 : (x.op == 0) = false := by rw [beq_eq_false_iff_ne, hop]; decide
  have d1 : (x.op == 1) = false := by rw [beq_eq_false_iff_ne, hop]; decide
  have d2 : (x.op == 2) = false := by rw [beq_eq_false_iff_ne, hop]; decide
  have d3 : (x.op == 3) = false := by rw [beq_eq_false_iff_ne, hop]; decide
  have d4 : (x.op == 4) = false := by rw [beq_eq_false_iff_ne, hop]; decide
  have d5 : (x.op == 5) = false := by rw [beq_eq_false_iff_ne, hop]; decide
  have d6 : (x.op == 6) = true := by rw [hop]; rfl
  have hst := hid (fun w' (hx : Ext w w') => Pair2.stay (x := x) (X := X) (by rw [h]; decide) (by rw [h]; decide) hP hR hD hx)
  obtain ⟨o, ho⟩ : ∃ o, Hid (o = atT L ((rankT L ⟨x.s, x.a⟩ : Nat) - 1 : Int)) := ⟨_, rfl⟩
  have hC1 : Hid (∀ w', Ext w w' → Calls Tryz.prog 30 #[.pointer (some ⟨t, 0, none⟩), .string x.s, .int .i64 x.a] w' (Give (TV o) w')) := fun w' hx => by
    obtain ⟨p, fT, H, -⟩ := hP.ext hx
    exact Prev_any t L X.1 p X.2 fT x.s x.a w' H o ho
  have hsr := hid hP.sr
  have hC2 := hid (fun w' (hx : Ext w w') => rPrev_any r L x.s x.a w' (hR.ext hx).rt hsr.out (by omega) o ho)
  clear ho hsr
  have hx1 := hid ((Ext.refl w).alloc_right (.cells #[.int .i64 x.op, .int .i64 x.a, .int .i64 x.b, .int .i64 x.c, .string x.s, .string x.t] 34))
  have ha := heap_alloc_new w (.cells #[.int .i64 x.op, .int .i64 x.a, .int .i64 x.b, .int .i64 x.c, .string x.s, .string x.t] 34)
  have z0 : (w.alloc (.cells #[.int .i64 x.op, .int .i64 x.a, .int .i64 x.b, .int .i64 x.c, .string x.s, .string x.t] 34)).cell? ⟨w.heap.size, 0, none⟩ = some (.int .i64 x.op) := by rw [Lib.cell_of_heap ha]; rfl
  have z1 : (w.alloc (.cells #[.int .i64 x.op, .int .i64 x.a, .int .i64 x.b, .int .i64 x.c, .string x.s, .string x.t] 34)).cell? ⟨w.heap.size, 1, none⟩ = some (.int .i64 x.a) := by rw [Lib.cell_of_heap ha]; rfl
  have z4 : (w.alloc (.cells #[.int .i64 x.op, .int .i64 x.a, .int .i64 x.b, .int .i64 x.c, .string x.s, .string x.t] 34)).cell? ⟨w.heap.size, 4, none⟩ = some (.string x.s) := by rw [Lib.cell_of_heap ha]; rfl
  have z5 : (w.alloc (.cells #[.int .i64 x.op, .int .i64 x.a, .int .i64 x.b, .int .i64 x.c, .string x.s, .string x.t] 34)).cell? ⟨w.heap.size, 5, none⟩ = some (.string x.t) := by rw [Lib.cell_of_heap ha]; rfl
  have lb := (Array.getElem?_eq_some_iff.1 ha).1
  clear ha
  clear hop h
  clear hP hR hD
  go_enter Tryz.func8, Tryz.ntmps8
  go_upto_region 1 with fail
  obtain ⟨b, hb⟩ : ∃ b, b = w.heap.size := ⟨_, rfl⟩
  rw [← hb] at z0 z1 z4 z5 lb
  simp only [← hb]
  replace hb := hid hb
  generalize w.alloc (.cells #[.int .i64 x.op, .int .i64 x.a, .int .i64 x.b, .int .i64 x.c, .string x.s, .string x.t] 34) = W1 at *
  go_wp2_with fail
  refine (hC1.out W1 hx1.out).mono ?_
  rintro e w2 ⟨rfl, hx2⟩
  replace z1 := hx2.cell z1
  replace z4 := hx2.cell z4
  replace lb := Nat.lt_of_lt_of_le lb hx2.size
  replace hx1 := hid (hx1.out.trans hx2)
  clear hx2 z0 z5
  cases o with
  | none =>
    simp only [TV]
    go_wp2_with fail
    refine (hC2.out w2 hx1.out).mono ?_
    rintro e w3 ⟨rfl, hx3⟩
    replace hx1 := hid (hx1.out.trans hx3)
    simp only [TV]
    clear hx3 z1 z4 lb
    go_wp2_with fail
    refine (found_any _ _ _ _).mono ?_
    rintro e w4 ⟨rfl, rfl⟩
    go_wp2
    go_ret
    exact ⟨rfl, hst.out _ hx1.out⟩
  | some y =>
    simp only [TV]
    go_wp2_with fail
    refine (hC2.out w2 hx1.out).mono ?_
    rintro e w3 ⟨rfl, hx3⟩
    replace hx1 := hid (hx1.out.trans hx3)
    simp only [TV]
    clear hx3 z1 z4 lb
    go_wp2_with fail
    refine (found_any _ _ _ _).mono ?_
    rintro e w4 ⟨rfl, rfl⟩
    go_wp2
    go_ret
    exact ⟨rfl, hst.out _ hx1.out⟩
set_option maxRecDepth 100000 in
set_option maxHeartbeats 4000000 in
theorem play_7 (t r : Nat) (x : Ac) (L : List Te) (X : Nat × BT) (F G : Nat → Nat) (w : World) (hP : PTo w t L X F) (hR : RTo w r L G) (hD : Dj F G) (hl : L.length ≤ 1200) (h : x.op = 7) : Calls Tryz.prog 8 #[.pointer (some ⟨t, 0, none⟩), .pointer (some ⟨r, 0, none⟩), .agg #[.int .i64 x.op, .int .i64 x.a, .int .i64 x.b, .int .i64 x.c, .string x.s, .string x.t]] w (GivePl x L X F G t r w) := by
  have hop : x.op = 7 := h
  have d0 : (x.op == 0) = false := by rw [beq_eq_false_iff_ne, hop]; decide
  have d1 : (x.op == 1) = false := by rw [beq_eq_false_iff_ne, hop]; decide
  have d2 : (x.op == 2) = false := by rw [beq_eq_false_iff_ne, hop]; decide
  have d3 : (x.op == 3) = false := by rw [beq_eq_false_iff_ne, hop]; decide
  have d4 : (x.op == 4) = false := by rw [beq_eq_false_iff_ne, hop]; decide
  have d5 : (x.op == 5) = false := by rw [beq_eq_false_iff_ne, hop]; decide
  have d6 : (x.op == 6) = false := by rw [beq_eq_false_iff_ne, hop]; decide
  have d7 : (x.op == 7) = true := by rw [hop]; rfl
  have hst := hid (fun w' (hx : Ext w w') => Pair2.stay (x := x) (X := X) (by rw [h]; decide) (by rw [h]; decide) hP hR hD hx)
  obtain ⟨l, hl2⟩ : ∃ l, Hid (l = rangeT (betwT L x.s x.t) x.a) := ⟨_, rfl⟩
  have hC1 : Hid (∀ w', Ext w w' → Calls Tryz.prog 32 #[.pointer (some ⟨t, 0, none⟩), .string x.s, .string x.t, .int .i64 x.a] w' (GiveE l w')) := fun w' hx => by
    obtain ⟨p, fT, H, -⟩ := hP.ext hx
    exact Range_any t L X.1 p X.2 fT x.s x.t x.a w' H l hl2
  have hsr := hid hP.sr
  have hC2 := hid (fun w' (hx : Ext w w') => rRange_any r L x.s x.t x.a w' (hR.ext hx).rt hsr.out (by omega) l hl2)
  clear hl2 hsr
  have hx1 := hid ((Ext.refl w).alloc_right (.cells #[.int .i64 x.op, .int .i64 x.a, .int .i64 x.b, .int .i64 x.c, .string x.s, .string x.t] 34))
  have ha := heap_alloc_new w (.cells #[.int .i64 x.op, .int .i64 x.a, .int .i64 x.b, .int .i64 x.c, .string x.s, .string x.t] 34)
  have z0 : (w.alloc (.cells #[.int .i64 x.op, .int .i64 x.a, .int .i64 x.b, .int .i64 x.c, .string x.s, .string x.t] 34)).cell? ⟨w.heap.size, 0, none⟩ = some (.int .i64 x.op) := by rw [Lib.cell_of_heap ha]; rfl
  have z1 : (w.alloc (.cells #[.int .i64 x.op, .int .i64 x.a, .int .i64 x.b, .int .i64 x.c, .string x.s, .string x.t] 34)).cell? ⟨w.heap.size, 1, none⟩ = some (.int .i64 x.a) := by rw [Lib.cell_of_heap ha]; rfl
  have z4 : (w.alloc (.cells #[.int .i64 x.op, .int .i64 x.a, .int .i64 x.b, .int .i64 x.c, .string x.s, .string x.t] 34)).cell? ⟨w.heap.size, 4, none⟩ = some (.string x.s) := by rw [Lib.cell_of_heap ha]; rfl
  have z5 : (w.alloc (.cells #[.int .i64 x.op, .int .i64 x.a, .int .i64 x.b, .int .i64 x.c, .string x.s, .string x.t] 34)).cell? ⟨w.heap.size, 5, none⟩ = some (.string x.t) := by rw [Lib.cell_of_heap ha]; rfl
  have lb := (Array.getElem?_eq_some_iff.1 ha).1
  clear ha
  clear hop h
  clear hP hR hD
  go_enter Tryz.func8, Tryz.ntmps8
  go_upto_region 1 with fail
  obtain ⟨b, hb⟩ : ∃ b, b = w.heap.size := ⟨_, rfl⟩
  rw [← hb] at z0 z1 z4 z5 lb
  simp only [← hb]
  replace hb := hid hb
  generalize w.alloc (.cells #[.int .i64 x.op, .int .i64 x.a, .int .i64 x.b, .int .i64 x.c, .string x.s, .string x.t] 34) = W1 at *
  go_wp2_with fail
  refine (hC1.out W1 hx1.out).mono ?_
  rintro e w2 ⟨A1, c1, A2, c2, rfl, q1, q2, hx2, -, -⟩
  replace z1 := hx2.cell z1
  replace z4 := hx2.cell z4
  replace z5 := hx2.cell z5
  replace lb := Nat.lt_of_lt_of_le lb hx2.size
  replace hx1 := hid (hx1.out.trans hx2)
  replace q1 := hid q1
  replace q2 := hid q2
  clear hx2 z0 hC1
  go_wp2_with fail
  refine (hC2.out w2 hx1.out).mono ?_
  rintro e w3 ⟨B1, d1, B2, d2, rfl, p1, p2, hx3, -, -⟩
  replace hx1 := hid (hx1.out.trans hx3)
  have hT := hid (sTexts_any A1 l.length c1 B1 d1 (l.map Te.key) w3 (q1.out.ext hx3) p1)
  have hN := hid (fun w' (hx : Ext w3 w') => sInts_any A2 l.length c2 B2 d2 (l.map Te.no) w' ((q2.out.ext hx3).ext hx) (p2.ext hx))
  clear hx3 p1 p2 q1 q2 z1 z4 z5 hC2
  go_wp2_with fail
  refine hT.out.mono ?_
  rintro e w4 ⟨rfl, hx4⟩
  replace hx1 := hid (hx1.out.trans hx4)
  replace hx4 := hid hx4
  go_wp2_with fail
  refine (hN.out w4 hx4.out).mono ?_
  rintro e w5 ⟨rfl, hx5⟩
  replace hx1 := hid (hx1.out.trans hx5)
  clear hx5
  go_wp2
  go_ret
  exact ⟨rfl, hst.out _ hx1.out⟩
set_option maxRecDepth 100000 in
set_option maxHeartbeats 4000000 in
theorem play_9 (t r : Nat) (x : Ac) (L : List Te) (X : Nat × BT) (F G : Nat → Nat) (w : World) (hP : PTo w t L X F) (hR : RTo w r L G) (hD : Dj F G) (hl : L.length ≤ 1200) (h : x.op = 9) : Calls Tryz.prog 8 #[.pointer (some ⟨t, 0, none⟩), .pointer (some ⟨r, 0, none⟩), .agg #[.int .i64 x.op, .int .i64 x.a, .int .i64 x.b, .int .i64 x.c, .string x.s, .string x.t]] w (GivePl x L X F G t r w) := by
  have hop : x.op = 9 := h
  have d0 : (x.op == 0) = false := by rw [beq_eq_false_iff_ne, hop]; decide
  have d1 : (x.op == 1) = false := by rw [beq_eq_false_iff_ne, hop]; decide
  have d2 : (x.op == 2) = false := by rw [beq_eq_false_iff_ne, hop]; decide
  have d3 : (x.op == 3) = false := by rw [beq_eq_false_iff_ne, hop]; decide
  have d4 : (x.op == 4) = false := by rw [beq_eq_false_iff_ne, hop]; decide
  have d5 : (x.op == 5) = false := by rw [beq_eq_false_iff_ne, hop]; decide
  have d6 : (x.op == 6) = false := by rw [beq_eq_false_iff_ne, hop]; decide
  have d7 : (x.op == 7) = false := by rw [beq_eq_false_iff_ne, hop]; decide
  have d8 : (x.op == 8) = false := by rw [beq_eq_false_iff_ne, hop]; decide
  have d9 : (x.op == 9) = true := by rw [hop]; rfl
  have hst := hid (fun w' (hx : Ext w w') => Pair2.stay (x := x) (X := X) (by rw [h]; decide) (by rw [h]; decide) hP hR hD hx)
  have hC1 : Hid (∀ w', Ext w w' → Calls Tryz.prog 9 #[.pointer (some ⟨t, 0, none⟩), .pointer (some ⟨r, 0, none⟩)] w' (Give (.bool true) w')) := fun w' hx => by
    obtain ⟨p, fT, H, -⟩ := hP.ext hx
    exact holds_any t L X.1 p X.2 fT r w' H (by have := (lst_le H.sh 0).1; rw [H.fl] at this; omega) (hR.ext hx).rt
  have hx1 := hid ((Ext.refl w).alloc_right (.cells #[.int .i64 x.op, .int .i64 x.a, .int .i64 x.b, .int .i64 x.c, .string x.s, .string x.t] 34))
  have ha := heap_alloc_new w (.cells #[.int .i64 x.op, .int .i64 x.a, .int .i64 x.b, .int .i64 x.c, .string x.s, .string x.t] 34)
  have z0 : (w.alloc (.cells #[.int .i64 x.op, .int .i64 x.a, .int .i64 x.b, .int .i64 x.c, .string x.s, .string x.t] 34)).cell? ⟨w.heap.size, 0, none⟩ = some (.int .i64 x.op) := by rw [Lib.cell_of_heap ha]; rfl
  have z1 : (w.alloc (.cells #[.int .i64 x.op, .int .i64 x.a, .int .i64 x.b, .int .i64 x.c, .string x.s, .string x.t] 34)).cell? ⟨w.heap.size, 1, none⟩ = some (.int .i64 x.a) := by rw [Lib.cell_of_heap ha]; rfl
  have z4 : (w.alloc (.cells #[.int .i64 x.op, .int .i64 x.a, .int .i64 x.b, .int .i64 x.c, .string x.s, .string x.t] 34)).cell? ⟨w.heap.size, 4, none⟩ = some (.string x.s) := by rw [Lib.cell_of_heap ha]; rfl
  have z5 : (w.alloc (.cells #[.int .i64 x.op, .int .i64 x.a, .int .i64 x.b, .int .i64 x.c, .string x.s, .string x.t] 34)).cell? ⟨w.heap.size, 5, none⟩ = some (.string x.t) := by rw [Lib.cell_of_heap ha]; rfl
  have lb := (Array.getElem?_eq_some_iff.1 ha).1
  clear ha
  clear hop h
  clear hP hR hD
  go_enter Tryz.func8, Tryz.ntmps8
  go_upto_region 1 with fail
  obtain ⟨b, hb⟩ : ∃ b, b = w.heap.size := ⟨_, rfl⟩
  rw [← hb] at z0 z1 z4 z5 lb
  simp only [← hb]
  replace hb := hid hb
  generalize w.alloc (.cells #[.int .i64 x.op, .int .i64 x.a, .int .i64 x.b, .int .i64 x.c, .string x.s, .string x.t] 34) = W1 at *
  go_wp2_with fail
  refine (hC1.out W1 hx1.out).mono ?_
  rintro e w2 ⟨rfl, hx2⟩
  replace hx1 := hid (hx1.out.trans hx2)
  clear hx2 z0 z1 z4 z5
  go_wp2
  go_ret
  exact ⟨rfl, hst.out _ hx1.out⟩
set_option maxRecDepth 100000 in
set_option maxHeartbeats 4000000 in
theorem play_no (t r : Nat) (x : Ac) (L : List Te) (X : Nat × BT) (F G : Nat → Nat) (w : World) (hP : PTo w t L X F) (hR : RTo w r L G) (hD : Dj F G) (hl : L.length ≤ 1200) (h0 : x.op ≠ 0) (h1 : x.op ≠ 1) (h2 : x.op ≠ 2) (h3 : x.op ≠ 3) (h4 : x.op ≠ 4) (h5 : x.op ≠ 5) (h6 : x.op ≠ 6) (h7 : x.op ≠ 7) (h8 : x.op ≠ 8) (h9 : x.op ≠ 9) : Calls Tryz.prog 8 #[.pointer (some ⟨t, 0, none⟩), .pointer (some ⟨r, 0, none⟩), .agg #[.int .i64 x.op, .int .i64 x.a, .int .i64 x.b, .int .i64 x.c, .string x.s, .string x.t]] w (GivePl x L X F G t r w) := by
  have d0 : (x.op == 0) = false := by rw [beq_eq_false_iff_ne]; exact h0
  have d1 : (x.op == 1) = false := by rw [beq_eq_false_iff_ne]; exact h1
  have d2 : (x.op == 2) = false := by rw [beq_eq_false_iff_ne]; exact h2
  have d3 : (x.op == 3) = false := by rw [beq_eq_false_iff_ne]; exact h3
  have d4 : (x.op == 4) = false := by rw [beq_eq_false_iff_ne]; exact h4
  have d5 : (x.op == 5) = false := by rw [beq_eq_false_iff_ne]; exact h5
  have d6 : (x.op == 6) = false := by rw [beq_eq_false_iff_ne]; exact h6
  have d7 : (x.op == 7) = false := by rw [beq_eq_false_iff_ne]; exact h7
  have d8 : (x.op == 8) = false := by rw [beq_eq_false_iff_ne]; exact h8
  have d9 : (x.op == 9) = false := by rw [beq_eq_false_iff_ne]; exact h9
  have hst := hid (fun w' (hx : Ext w w') => Pair2.stay (x := x) (X := X) h0 h1 hP hR hD hx)
  have hC1 : Hid (∀ w', Ext w w' → Calls Tryz.prog 18 #[.pointer (some ⟨t, 0, none⟩)] w' (Give (.int .i64 L.length) w')) := fun w' hx => by
    obtain ⟨p, fT, H, -⟩ := hP.ext hx
    exact Len_any t L X.1 p X.2 fT w' H
  have hC2 := hid (fun w' (hx : Ext w w') => rLen_any r L w' (hR.ext hx).rt)
  clear h0 h1 h2 h3 h4 h5 h6 h7 h8 h9
  have hx1 := hid ((Ext.refl w).alloc_right (.cells #[.int .i64 x.op, .int .i64 x.a, .int .i64 x.b, .int .i64 x.c, .string x.s, .string x.t] 34))
  have ha := heap_alloc_new w (.cells #[.int .i64 x.op, .int .i64 x.a, .int .i64 x.b, .int .i64 x.c, .string x.s, .string x.t] 34)
  have z0 : (w.alloc (.cells #[.int .i64 x.op, .int .i64 x.a, .int .i64 x.b, .int .i64 x.c, .string x.s, .string x.t] 34)).cell? ⟨w.heap.size, 0, none⟩ = some (.int .i64 x.op) := by rw [Lib.cell_of_heap ha]; rfl
  have z1 : (w.alloc (.cells #[.int .i64 x.op, .int .i64 x.a, .int .i64 x.b, .int .i64 x.c, .string x.s, .string x.t] 34)).cell? ⟨w.heap.size, 1, none⟩ = some (.int .i64 x.a) := by rw [Lib.cell_of_heap ha]; rfl
  have z4 : (w.alloc (.cells #[.int .i64 x.op, .int .i64 x.a, .int .i64 x.b, .int .i64 x.c, .string x.s, .string x.t] 34)).cell? ⟨w.heap.size, 4, none⟩ = some (.string x.s) := by rw [Lib.cell_of_heap ha]; rfl
  have z5 : (w.alloc (.cells #[.int .i64 x.op, .int .i64 x.a, .int .i64 x.b, .int .i64 x.c, .string x.s, .string x.t] 34)).cell? ⟨w.heap.size, 5, none⟩ = some (.string x.t) := by rw [Lib.cell_of_heap ha]; rfl
  have lb := (Array.getElem?_eq_some_iff.1 ha).1
  clear ha
  clear hP hR hD
  go_enter Tryz.func8, Tryz.ntmps8
  go_upto_region 1 with fail
  obtain ⟨b, hb⟩ : ∃ b, b = w.heap.size := ⟨_, rfl⟩
  rw [← hb] at z0 z1 z4 z5 lb
  simp only [← hb]
  replace hb := hid hb
  generalize w.alloc (.cells #[.int .i64 x.op, .int .i64 x.a, .int .i64 x.b, .int .i64 x.c, .string x.s, .string x.t] 34) = W1 at *
  go_wp2_with fail
  refine (hC1.out W1 hx1.out).mono ?_
  rintro e w2 ⟨rfl, hx2⟩
  replace hx1 := hid (hx1.out.trans hx2)
  clear hx2 z0 z1 z4 z5
  go_wp2_with fail
  refine (hC2.out w2 hx1.out).mono ?_
  rintro e w3 ⟨rfl, rfl⟩
  go_wp2
  go_ret
  exact ⟨rfl, hst.out _ hx1.out⟩
theorem played_any (t r : Nat) (x : Ac) (L : List Te) (X : Nat × BT) (F G : Nat → Nat) (w : World) (hP : PTo w t L X F) (hR : RTo w r L G) (hD : Dj F G) (hl : L.length ≤ 1200) : Calls Tryz.prog 8 #[.pointer (some ⟨t, 0, none⟩), .pointer (some ⟨r, 0, none⟩), .agg #[.int .i64 x.op, .int .i64 x.a, .int .i64 x.b, .int .i64 x.c, .string x.s, .string x.t]] w (GivePl x L X F G t r w) := by
  by_cases h0 : x.op = 0
  · exact play_0 t r x L X F G w hP hR hD hl h0
  by_cases h1 : x.op = 1
  · exact play_1 t r x L X F G w hP hR hD hl h1
  by_cases h2 : x.op = 2
  · exact play_2 t r x L X F G w hP hR hD hl h2
  by_cases h3 : x.op = 3
  · exact play_3 t r x L X F G w hP hR hD hl h3
  by_cases h4 : x.op = 4
  · exact play_4 t r x L X F G w hP hR hD hl h4
  by_cases h5 : x.op = 5
  · exact play_5 t r x L X F G w hP hR hD hl h5
  by_cases h6 : x.op = 6
  · exact play_6 t r x L X F G w hP hR hD hl h6
  by_cases h7 : x.op = 7
  · exact play_7 t r x L X F G w hP hR hD hl h7
  by_cases h8 : x.op = 8
  · exact play_8 t r x L X F G w hP hR hD hl h8
  by_cases h9 : x.op = 9
  · exact play_9 t r x L X F G w hP hR hD hl h9
  exact play_no t r x L X F G w hP hR hD hl h0 h1 h2 h3 h4 h5 h6 h7 h8 h9
end Go.Proofs.YtpijfiaecicpfaaGreat

namespace Go.Proofs.YtpijfiaecicpfaaGreat
open Go.RowKit Go.Shelf
set_option linter.unusedVariables false
set_option linter.unusedSimpArgs false
def GiveO (n : Nat) (w : World) (e : Ending) (w' : World) : Prop := ∃ b, e = .returned (.bool b) ∧ (b = false → n ≤ 2000) ∧ Ext w w'
set_option maxRecDepth 100000 in
set_option maxHeartbeats 4000000 in
theorem over_any (A : Option Addr) (n c : Nat) (l : List Ac) (w : World) (hl : RdA w A n c l) : Calls Tryz.prog 5 #[.slice A n c] w (GiveO n w) := by
  have hmx := Rd.max hl.1
  go_enter Tryz.func5, Tryz.ntmps5
  go_wp2_with fail
  go_loopw [3, 4] (fun s i wr => ∃ (k : Nat) (v : Int), k ≤ n ∧ i = .int .i64 k ∧ s = .int .i64 v ∧ Hid (Ext w wr)) (fun _ i _ => n - (intOf i).toNat)
  case atStart => exact ⟨0, 0, by omega, rfl, rfl, Ext.refl w⟩
  case round =>
    obtain ⟨k, v, hk, rfl, rfl, hx⟩ := hrel
    by_cases hlt : k < n
    · obtain ⟨ad, rfl, z0, z1, z2, z4, z5, hok⟩ := (hl.ext hx.out).at_ hlt
      obtain ⟨o1, o2⟩ := hok
      have hki : (k : Int) < (n : Int) := by omega
      generalize ath l k = x at *
      clear z0 z1 z2
      go_upto_region 5 with fail
      go_quiet (fail)
      go_wp2
      go_roundw
      case rel => exact ⟨k + 1, _, by omega, by go_num, rfl, hx.out.drewN_right _⟩
      case measure => simp [intOf]; omega
    · obtain rfl : k = n := by omega
      by_cases h2 : 2000 < k
      · have h2i : (2000 : Int) < (k : Int) := by omega
        go_wp2
        go_ret
        exact ⟨true, rfl, fun h => (by cases h), hx.out⟩
      · have h2i : ¬ (2000 : Int) < (k : Int) := by omega
        have h2n : k ≤ 2000 := by omega
        by_cases hv : (1048576 : Int) < v
        · go_wp2
          go_ret
          exact ⟨true, rfl, fun h => (by cases h), hx.out⟩
        · go_wp2
          go_ret
          exact ⟨false, rfl, fun _ => h2n, hx.out⟩
end Go.Proofs.YtpijfiaecicpfaaGreat

namespace Go.Proofs.YtpijfiaecicpfaaGreat
open Go.RowKit Go.Shelf
set_option linter.unusedVariables false
set_option linter.unusedSimpArgs false
/-- Both trees, behind a world. -/
def PQ (w0 w : World) (t r : Nat) (L : List Te) (X : Nat × BT) (F G : Nat → Nat) : Prop := Ext w0 w ∧ PTo w t L X F ∧ RTo w r L G ∧ Dj F G ∧ (∀ a, a < w0.heap.size → F a = 0) ∧ ∀ a, a < w0.heap.size → G a = 0
section
variable {w0 w w' : World} {t r : Nat} {L : List Te} {X : Nat × BT} {F G : Nat → Nat}
theorem PQ.ext (h : PQ w0 w t r L X F G) (hx : Ext w w') : PQ w0 w' t r L X F G := ⟨h.1.trans hx, h.2.1.ext hx, h.2.2.1.ext hx, h.2.2.2⟩
theorem PQ.turn {x : Ac} (h : PQ w0 w t r L X F G) (h2 : Pair2 x L X F G t r w w') : ∃ F' G', PQ w0 w' t r (actL x L) (actX x L X) F' G' := by
  obtain ⟨k1, k2, k3, k4, k5, k6⟩ := h
  obtain ⟨F', G', m1, m2, m3, m4, m5, m6⟩ := h2
  have hs := k1.size
  refine ⟨F', G', k1.trans' m6 (fun a ha => ?_), m1, m2, m3, fun a ha => Classical.byContradiction fun h0 => ?_, fun a ha => Classical.byContradiction fun h0 => ?_⟩
  · show F a + G a = 0
    rw [k5 a ha, k6 a ha]
  · exact m4 a (by omega) h0 (k5 a ha)
  · exact m5 a (by omega) h0 (k6 a ha)
theorem PQ.new {w1 w2 : World} {p : Nat} {fT : Nat → Nat} (hx1 : Ext w0 w1) (hx2 : Ext w1 w2) (h1 : w1.heap.size ≤ t) (hT : TreeAt 0 w2 t [] 0 p (.nd [] []) fT) (hf : ∀ a, a < w1.heap.size → fT a = 0) : ∃ F G, PQ w0 (w2.alloc (.cells #[.slice none 0 0, .slice none 0 0] 31)) t w2.heap.size [] (0, .nd [] []) F G := by
  have s1 := hx1.size
  have s2 := hx2.size
  have hx3 := (Ext.refl w2).alloc_right (.cells #[.slice none 0 0, .slice none 0 0] 31)
  have ha := heap_alloc_new w2 (.cells #[.slice none 0 0, .slice none 0 0] 31)
  have hP : PTo w2 t [] (0, .nd [] []) (fun a => one1 t a + fT a) := ⟨p, fT, hT, fun _ => rfl⟩
  refine ⟨fun a => one1 t a + fT a, one1 w2.heap.size, (hx1.trans hx2).trans hx3, hP.ext hx3, ⟨none, 0, none, 0, ha, Rd.none_ _ 1, RdI.nil _, by rw [one_self]; omega, fun h => absurd h (Nat.lt_irrefl 0), fun h => absurd h (Nat.lt_irrefl 0), fun a h => if_neg (fun e => ?_)⟩, fun a => ?_, fun a h => ?_, fun a h => if_neg (fun e => by omega)⟩
  · rw [World.size_alloc] at h
    omega
  · by_cases e : a = w2.heap.size
    · exact .inl (hP.bound a (by omega))
    · exact .inr (if_neg (fun e' => by omega))
  · show one1 t a + fT a = 0
    rw [hf a (by omega), show one1 t a = 0 from if_neg (by omega)]
theorem PQ.holds (h : PQ w0 w t r L X F G) (hl : L.length ≤ 1200) : Calls Tryz.prog 9 #[.pointer (some ⟨t, 0, none⟩), .pointer (some ⟨r, 0, none⟩)] w (Give (.bool true) w) := by
  obtain ⟨k1, ⟨p, fT, H, -⟩, k3, k4⟩ := h
  have h2 := (lst_le H.sh 0).1
  rw [H.fl] at h2
  exact holds_any t L X.1 p X.2 fT r w H (by omega) k3.rt
end
theorem RdA.at6 {w : World} {A : Option Addr} {n c : Nat} {l : List Ac} (h : RdA w A n c l) {k : Nat} (hk : k < n) : ∃ ad, A = some ad ∧ w.cell? (ad.add (k * 6)) = some (.int .i64 (ath l k).op) ∧ w.cell? ⟨(ad.add (k * 6)).block, (ad.add (k * 6)).off + 1, none⟩ = some (.int .i64 (ath l k).a) ∧ w.cell? ⟨(ad.add (k * 6)).block, (ad.add (k * 6)).off + 2, none⟩ = some (.int .i64 (ath l k).b) ∧
    w.cell? ⟨(ad.add (k * 6)).block, (ad.add (k * 6)).off + 3, none⟩ = some (.int .i64 (ath l k).c) ∧ w.cell? ⟨(ad.add (k * 6)).block, (ad.add (k * 6)).off + 4, none⟩ = some (.string (ath l k).s) ∧ w.cell? ⟨(ad.add (k * 6)).block, (ad.add (k * 6)).off + 5, none⟩ = some (.string (ath l k).t) := by
  have hl := h.len
  have hlt : k < l.length := by omega
  obtain ⟨ad, rfl, hc⟩ := h.1.2.2.2 (by omega)
  have hj : ∀ j v, j < 6 → (acells (ath l k))[j]? = some v → w.cell? (ad.add (k * 6 + j)) = some v := fun j v h6 hv => hc _ _ (by rw [acs_at l k hlt j h6, ← ath_get hlt]; exact hv)
  have hf : ∀ j v, j < 6 → 0 < j → (acells (ath l k))[j]? = some v → w.cell? ⟨(ad.add (k * 6)).block, (ad.add (k * 6)).off + j, none⟩ = some v := fun j v h6 h0 hv => cell_fk (hj j v h6 hv) h0
  exact ⟨ad, rfl, hj 0 _ (by decide) rfl, hf 1 _ (by decide) (by decide) rfl, hf 2 _ (by decide) (by decide) rfl, hf 3 _ (by decide) (by decide) rfl, hf 4 _ (by decide) (by decide) rfl, hf 5 _ (by decide) (by decide) rfl⟩
end Go.Proofs.YtpijfiaecicpfaaGreat

