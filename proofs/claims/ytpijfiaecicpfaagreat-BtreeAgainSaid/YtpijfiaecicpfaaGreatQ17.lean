/-
  A node that is copied, with its kids; One act with both trees; The law of scripts played on both trees; Whether a script is over.
-/
import Derived.Test.YtpijfiaecicpfaaGreatQ16
import Derived.Test.YtpijfiaecicpfaaGreatQ9
import Derived.Test.YtpijfiaecicpfaaGreatQ11
import Derived.Test.YtpijfiaecicpfaaGreatQ5
import Derived.Test.YtpijfiaecicpfaaGreatQ4
set_option maxRecDepth 100000
set_option maxHeartbeats 40000000
set_option linter.unusedVariables false
set_option linter.unusedSimpArgs false
namespace Go.Proofs.YtpijfiaecicpfaaGreat
open Go.RowKit Go.Shelf
theorem play_0 (t r : Nat) (x : Ac) (L : List Te) (X : Nat × BT) (F G : Nat → Nat) (w : World) (hP : PTo w t L X F) (hR : RTo w r L G) (hD : Dj F G) (hl : L.length ≤ 1200) (h : x.op = 0) : Calls Tryz.prog 8 #[.pointer (some ⟨t, 0, none⟩), .pointer (some ⟨r, 0, none⟩), .agg #[.int .i64 x.op, .int .i64 x.a, .int .i64 x.b, .int .i64 x.c, .string x.s, .string x.t]] w (GivePl x L X F G t r w) := by
  have hop : x.op = 0 := h
  have d0 : (x.op == 0) = true := by rw [hop]; rfl
  have hgo := hid hP
  have hP' := hP
  obtain ⟨p, fT, H, hF⟩ := hP'
  have eL : Hid (actL x L = putLs L ⟨x.s, x.a⟩) := by unfold Hid actL; rw [if_pos h]
  have eX : Hid (actX x L X = putX X.1 X.2 L ⟨x.s, x.a⟩) := by unfold Hid actX; rw [if_pos h]
  obtain ⟨er, hE⟩ : ∃ er, Hid (er = putEr L ⟨x.s, x.a⟩) := ⟨_, rfl⟩
  obtain ⟨L', hL'⟩ : ∃ L', Hid (L' = putLs L ⟨x.s, x.a⟩) := ⟨_, rfl⟩
  obtain ⟨X', hX'⟩ : ∃ X', Hid (X' = putX X.1 X.2 L ⟨x.s, x.a⟩) := ⟨_, rfl⟩
  rw [← hL'.out] at eL
  rw [← hX'.out] at eX
  have hC1 : Hid (∀ w1, Ext w w1 → Calls Tryz.prog 16 #[.pointer (some ⟨t, 0, none⟩), .string x.s, .int .i64 x.a] w1 fun e w' => e = .returned (.int .i64 er) ∧ TreeTurnedX X' 0 w1 w' t fT L') := fun w1 hx => by
    rw [hE.out, hL'.out, hX'.out]; exact PutX_any t L X.1 p X.2 fT x.s x.a w1 (H.ext hx)
  have hC2 : Hid (∀ w1 w2, Ext w w1 → FR F w1 w2 → Calls Tryz.prog 19 #[.pointer (some ⟨r, 0, none⟩), .string x.s, .int .i64 x.a] w2 fun e w' => e = .returned (.int .i64 er) ∧ RTurned w2 w' r G L') := fun w1 w2 hx hF => rPut_any r L G x.s x.a w2 ((hR.ext hx).frame hF (fun a h => (hD a).resolve_right h)) H.sr hl er L' hE.out hL'.out
  have hlt := hid H.lt
  have hfin := hid (fun (w1 w2 w3 : World) (F' : Nat → Nat) (hx : Ext w w1) (h1 : PTo w2 t L' X' F') h2 h3 h4 => Pair2.turn (w1 := w1) (w2 := w2) (w3 := w3) (F' := F') eL.out eX.out hgo.out hR hD hx h1 h2 h3 h4)
  have hFb := hid hgo.out.bound
  have hrlt := hid hR.lt
  replace hF := hid hF
  clear H hE hL' hX' eL eX hgo
  have hx1 := hid ((Ext.refl w).alloc_right (.cells #[.int .i64 x.op, .int .i64 x.a, .int .i64 x.b, .int .i64 x.c, .string x.s, .string x.t] 34))
  have ha := heap_alloc_new w (.cells #[.int .i64 x.op, .int .i64 x.a, .int .i64 x.b, .int .i64 x.c, .string x.s, .string x.t] 34)
  have z0 : (w.alloc (.cells #[.int .i64 x.op, .int .i64 x.a, .int .i64 x.b, .int .i64 x.c, .string x.s, .string x.t] 34)).cell? ⟨w.heap.size, 0, none⟩ = some (.int .i64 x.op) := by rw [Lib.cell_of_heap ha]; rfl
  have z1 : (w.alloc (.cells #[.int .i64 x.op, .int .i64 x.a, .int .i64 x.b, .int .i64 x.c, .string x.s, .string x.t] 34)).cell? ⟨w.heap.size, 1, none⟩ = some (.int .i64 x.a) := by rw [Lib.cell_of_heap ha]; rfl
  have z4 : (w.alloc (.cells #[.int .i64 x.op, .int .i64 x.a, .int .i64 x.b, .int .i64 x.c, .string x.s, .string x.t] 34)).cell? ⟨w.heap.size, 4, none⟩ = some (.string x.s) := by rw [Lib.cell_of_heap ha]; rfl
  have z5 : (w.alloc (.cells #[.int .i64 x.op, .int .i64 x.a, .int .i64 x.b, .int .i64 x.c, .string x.s, .string x.t] 34)).cell? ⟨w.heap.size, 5, none⟩ = some (.string x.t) := by rw [Lib.cell_of_heap ha]; rfl
  have lb := (Array.getElem?_eq_some_iff.1 ha).1
  clear ha
  clear hop h
  clear hP hR hD
  go_enter Tryz.func8, Tryz.ntmps8
  go_upto_region 1 with fail
  obtain ⟨b, hb⟩ : ∃ b, b = w.heap.size := ⟨_, rfl⟩
  rw [← hb] at z0 z1 z4 z5 lb
  simp only [← hb]
  replace hb := hid hb
  generalize w.alloc (.cells #[.int .i64 x.op, .int .i64 x.a, .int .i64 x.b, .int .i64 x.c, .string x.s, .string x.t] 34) = W1 at *
  go_upto_region 3 with fail
  have I0 : (fun w' : World => w'.cell? ⟨b, 1, none⟩ = some (.int .i64 x.a) ∧ w'.cell? ⟨b, 4, none⟩ = some (.string x.s) ∧ w'.cell? ⟨b, 5, none⟩ = some (.string x.t)) W1.drew := ⟨z1, z4, z5⟩
  refine region_J (fun w' : World => w'.cell? ⟨b, 1, none⟩ = some (.int .i64 x.a) ∧ w'.cell? ⟨b, 4, none⟩ = some (.string x.s) ∧ w'.cell? ⟨b, 5, none⟩ = some (.string x.t)) 14 (by kernel_rfl) ?_
  replace hx1 := hid (hx1.out.drew_right)
  clear z0 z1 z4 z5 lb
  generalize W1.drew = W1 at *
  refine JO 0 (v := ?vc0) I0 ?yc0 ?rc0
  case yc0 => (intro w h; obtain ⟨_, _, _⟩ := h; go_simp; with_reducible rfl)
  simp only [Act.put, lyA, lyB, lyC, lyD, lyE, lyF]
  refine JO 1 (v := ?vc1) I0 ?yc1 ?rc1
  case yc1 => (intro w h; obtain ⟨_, _, _⟩ := h; go_simp; with_reducible rfl)
  simp only [Act.put, lyA, lyB, lyC, lyD, lyE, lyF]
  refine JO 2 (v := ?vc2) I0 ?yc2 ?rc2
  case yc2 => (intro w h; obtain ⟨_, _, _⟩ := h; go_simp; with_reducible rfl)
  simp only [Act.put, lyA, lyB, lyC, lyD, lyE, lyF]
  refine JO 3 (v := ?vc3) I0 ?yc3 ?rc3
  case yc3 => (intro w h; obtain ⟨_, _, _⟩ := h; go_simp; with_reducible rfl)
  simp only [Act.put, lyA, lyB, lyC, lyD, lyE, lyF]
  refine JO 4 (v := ?vc4) I0 ?yc4 ?rc4
  case yc4 => (intro w h; obtain ⟨_, _, _⟩ := h; go_simp; with_reducible rfl)
  simp only [Act.put, lyA, lyB, lyC, lyD, lyE, lyF]
  refine JO 6 (v := ?vc6) I0 ?yc6 ?rc6
  case yc6 => (intro w h; obtain ⟨_, _, _⟩ := h; go_simp; with_reducible rfl)
  simp only [Act.put, lyA, lyB, lyC, lyD, lyE, lyF]
  refine JO 7 (v := ?vc7) I0 ?yc7 ?rc7
  case yc7 => (intro w h; obtain ⟨_, _, _⟩ := h; go_simp; with_reducible rfl)
  simp only [Act.put, lyA, lyB, lyC, lyD, lyE, lyF]
  refine JO 8 (v := ?vc8) I0 ?yc8 ?rc8
  case yc8 => (intro w h; obtain ⟨_, _, _⟩ := h; go_simp; with_reducible rfl)
  simp only [Act.put, lyA, lyB, lyC, lyD, lyE, lyF]
  refine JO 9 (v := ?vc9) I0 ?yc9 ?rc9
  case yc9 => (intro w h; obtain ⟨_, _, _⟩ := h; go_simp; with_reducible rfl)
  simp only [Act.put, lyA, lyB, lyC, lyD, lyE, lyF]
  refine JO 10 (v := ?vc10) I0 ?yc10 ?rc10
  case yc10 => (intro w h; obtain ⟨_, _, _⟩ := h; go_simp; with_reducible rfl)
  simp only [Act.put, lyA, lyB, lyC, lyD, lyE, lyF]
  refine J_one 5 rfl (by kernel_rfl) (fun K hK => ?_)
  go_simp
  refine (hC1.out W1 hx1.out).mono ?_
  rintro e w2 ⟨rfl, ht⟩
  have hsz1 := hx1.out.size
  obtain ⟨F', hP2, k2, hF2⟩ := PTo.turn hF.out (Nat.lt_of_lt_of_le hlt.out hsz1) ht
  have hkeep : ∀ (j : Nat) (u : Value), W1.cell? ⟨b, j, none⟩ = some u → w2.cell? ⟨b, j, none⟩ = some u := fun j u hu => by
    rw [World.cell?_of_block (hF2.2.2.2.2 b (World.block_lt_of_cell? _ _ hu) (hFb.out b (by have := hb.out; omega)))]
    exact hu
  have I2 : (fun w' : World => w'.cell? ⟨b, 1, none⟩ = some (.int .i64 x.a) ∧ w'.cell? ⟨b, 4, none⟩ = some (.string x.s) ∧ w'.cell? ⟨b, 5, none⟩ = some (.string x.t)) w2 := ⟨hkeep 1 _ I0.1, hkeep 4 _ I0.2.1, hkeep 5 _ I0.2.2⟩
  replace hP2 := hid hP2
  replace k2 := hid k2
  replace hF2 := hid hF2
  clear ht hkeep
  refine hK _ _ ⟨fun _ => I2, ?_⟩
  clear hK K
  try simp only [Act.put, lyA, lyB, lyC, lyD, lyE, lyF]
  refine J_one 11 rfl (by kernel_rfl) (fun K hK => ?_)
  go_simp
  refine (hC2.out W1 w2 hx1.out hF2.out).mono ?_
  rintro e w3 ⟨rfl, ht⟩
  have hres := hid (hfin.out W1 w2 w3 F' hx1.out hP2.out k2.out hF2.out ht)
  have hsz1 := hx1.out.size
  have hsz2 := hF2.out.2.2.2.1
  have hkeep : ∀ (j : Nat) (u : Value), w2.cell? ⟨b, j, none⟩ = some u → w3.cell? ⟨b, j, none⟩ = some u := fun j u hu => by
    obtain ⟨G', -, -, h3⟩ := ht
    rw [World.cell?_of_block (h3.2.2.2.2 b (World.block_lt_of_cell? _ _ hu) (if_neg (fun e => by have := hrlt.out; have := hb.out; omega)))]
    exact hu
  have I3 : (fun w' : World => w'.cell? ⟨b, 1, none⟩ = some (.int .i64 x.a) ∧ w'.cell? ⟨b, 4, none⟩ = some (.string x.s) ∧ w'.cell? ⟨b, 5, none⟩ = some (.string x.t)) w3 := ⟨hkeep 1 _ I2.1, hkeep 4 _ I2.2.1, hkeep 5 _ I2.2.2⟩
  clear ht hkeep hsz1 hsz2
  refine hK _ _ ⟨fun _ => I3, ?_⟩
  clear hK K
  try simp only [Act.put, lyA, lyB, lyC, lyD, lyE, lyF]
  refine J_one 12 rfl (by kernel_rfl) (fun K hK => ?_)
  go_simp
  refine hK _ _ ⟨fun _ => I3, ?_⟩
  clear hK K
  try simp only [Act.put, lyD, lyE, lyF]
  refine J_one 13 rfl (by kernel_rfl) (fun K hK => ?_)
  go_simp
  refine hK _ _ ⟨fun _ => I3, ?_⟩
  clear hK K
  try simp only [Act.put, lyD, lyE, lyF]
  refine J_done (by kernel_rfl) (OnlyOn.normal ?_)
  go_wp2
  go_ret
  exact ⟨rfl, hres.out⟩
theorem play_1 (t r : Nat) (x : Ac) (L : List Te) (X : Nat × BT) (F G : Nat → Nat) (w : World) (hP : PTo w t L X F) (hR : RTo w r L G) (hD : Dj F G) (hl : L.length ≤ 1200) (h : x.op = 1) : Calls Tryz.prog 8 #[.pointer (some ⟨t, 0, none⟩), .pointer (some ⟨r, 0, none⟩), .agg #[.int .i64 x.op, .int .i64 x.a, .int .i64 x.b, .int .i64 x.c, .string x.s, .string x.t]] w (GivePl x L X F G t r w) := by
  have hop : x.op = 1 := h
  have d0 : (x.op == 0) = false := by rw [beq_eq_false_iff_ne, hop]; decide
  have d1 : (x.op == 1) = true := by rw [hop]; rfl
  have hgo := hid hP
  have hP' := hP
  obtain ⟨p, fT, H, hF⟩ := hP'
  have eL : Hid (actL x L = takeLs L ⟨x.s, x.a⟩) := by unfold Hid actL; rw [if_neg (by rw [h]; decide), if_pos h]
  have eX : Hid (actX x L X = takeX X.1 X.2 L ⟨x.s, x.a⟩) := by unfold Hid actX; rw [if_neg (by rw [h]; decide), if_pos h]
  obtain ⟨er, hE⟩ : ∃ er, Hid (er = takeEr L ⟨x.s, x.a⟩) := ⟨_, rfl⟩
  obtain ⟨L', hL'⟩ : ∃ L', Hid (L' = takeLs L ⟨x.s, x.a⟩) := ⟨_, rfl⟩
  obtain ⟨X', hX'⟩ : ∃ X', Hid (X' = takeX X.1 X.2 L ⟨x.s, x.a⟩) := ⟨_, rfl⟩
  rw [← hL'.out] at eL
  rw [← hX'.out] at eX
  have hC1 : Hid (∀ w1, Ext w w1 → Calls Tryz.prog 20 #[.pointer (some ⟨t, 0, none⟩), .string x.s, .int .i64 x.a] w1 fun e w' => e = .returned (.int .i64 er) ∧ TreeTurnedX X' 0 w1 w' t fT L') := fun w1 hx => by
    exact TakeX_any t L X.1 p X.2 fT x.s x.a w1 (H.ext hx) er L' hE.out hL'.out X' hX'.out
  have hC2 : Hid (∀ w1 w2, Ext w w1 → FR F w1 w2 → Calls Tryz.prog 21 #[.pointer (some ⟨r, 0, none⟩), .string x.s, .int .i64 x.a] w2 fun e w' => e = .returned (.int .i64 er) ∧ RTurned w2 w' r G L') := fun w1 w2 hx hF => rTake_any r L G x.s x.a w2 ((hR.ext hx).frame hF (fun a h => (hD a).resolve_right h)) H.sr hl er L' hE.out hL'.out
  have hlt := hid H.lt
  have hfin := hid (fun (w1 w2 w3 : World) (F' : Nat → Nat) (hx : Ext w w1) (h1 : PTo w2 t L' X' F') h2 h3 h4 => Pair2.turn (w1 := w1) (w2 := w2) (w3 := w3) (F' := F') eL.out eX.out hgo.out hR hD hx h1 h2 h3 h4)
  have hFb := hid hgo.out.bound
  have hrlt := hid hR.lt
  replace hF := hid hF
  clear H hE hL' hX' eL eX hgo
  have hx1 := hid ((Ext.refl w).alloc_right (.cells #[.int .i64 x.op, .int .i64 x.a, .int .i64 x.b, .int .i64 x.c, .string x.s, .string x.t] 34))
  have ha := heap_alloc_new w (.cells #[.int .i64 x.op, .int .i64 x.a, .int .i64 x.b, .int .i64 x.c, .string x.s, .string x.t] 34)
  have z0 : (w.alloc (.cells #[.int .i64 x.op, .int .i64 x.a, .int .i64 x.b, .int .i64 x.c, .string x.s, .string x.t] 34)).cell? ⟨w.heap.size, 0, none⟩ = some (.int .i64 x.op) := by rw [Lib.cell_of_heap ha]; rfl
  have z1 : (w.alloc (.cells #[.int .i64 x.op, .int .i64 x.a, .int .i64 x.b, .int .i64 x.c, .string x.s, .string x.t] 34)).cell? ⟨w.heap.size, 1, none⟩ = some (.int .i64 x.a) := by rw [Lib.cell_of_heap ha]; rfl
  have z4 : (w.alloc (.cells #[.int .i64 x.op, .int .i64 x.a, .int .i64 x.b, .int .i64 x.c, .string x.s, .string x.t] 34)).cell? ⟨w.heap.size, 4, none⟩ = some (.string x.s) := by rw [Lib.cell_of_heap ha]; rfl
  have z5 : (w.alloc (.cells #[.int .i64 x.op, .int .i64 x.a, .int .i64 x.b, .int .i64 x.c, .string x.s, .string x.t] 34)).cell? ⟨w.heap.size, 5, none⟩ = some (.string x.t) := by rw [Lib.cell_of_heap ha]; rfl
  have lb := (Array.getElem?_eq_some_iff.1 ha).1
  clear ha
  clear hop h
  clear hP hR hD
  go_enter Tryz.func8, Tryz.ntmps8
  go_upto_region 1 with fail
  obtain ⟨b, hb⟩ : ∃ b, b = w.heap.size := ⟨_, rfl⟩
  rw [← hb] at z0 z1 z4 z5 lb
  simp only [← hb]
  replace hb := hid hb
  generalize w.alloc (.cells #[.int .i64 x.op, .int .i64 x.a, .int .i64 x.b, .int .i64 x.c, .string x.s, .string x.t] 34) = W1 at *
  go_upto_region 5 with fail
  have I0 : (fun w' : World => w'.cell? ⟨b, 1, none⟩ = some (.int .i64 x.a) ∧ w'.cell? ⟨b, 4, none⟩ = some (.string x.s) ∧ w'.cell? ⟨b, 5, none⟩ = some (.string x.t)) W1.drew := ⟨z1, z4, z5⟩
  refine region_J (fun w' : World => w'.cell? ⟨b, 1, none⟩ = some (.int .i64 x.a) ∧ w'.cell? ⟨b, 4, none⟩ = some (.string x.s) ∧ w'.cell? ⟨b, 5, none⟩ = some (.string x.t)) 14 (by kernel_rfl) ?_
  replace hx1 := hid (hx1.out.drew_right)
  clear z0 z1 z4 z5 lb
  generalize W1.drew = W1 at *
  refine JO 0 (v := ?vc0) I0 ?yc0 ?rc0
  case yc0 => (intro w h; obtain ⟨_, _, _⟩ := h; go_simp; with_reducible rfl)
  simp only [Act.put, lyA, lyB, lyC, lyD, lyE, lyF]
  refine JO 1 (v := ?vc1) I0 ?yc1 ?rc1
  case yc1 => (intro w h; obtain ⟨_, _, _⟩ := h; go_simp; with_reducible rfl)
  simp only [Act.put, lyA, lyB, lyC, lyD, lyE, lyF]
  refine JO 2 (v := ?vc2) I0 ?yc2 ?rc2
  case yc2 => (intro w h; obtain ⟨_, _, _⟩ := h; go_simp; with_reducible rfl)
  simp only [Act.put, lyA, lyB, lyC, lyD, lyE, lyF]
  refine JO 3 (v := ?vc3) I0 ?yc3 ?rc3
  case yc3 => (intro w h; obtain ⟨_, _, _⟩ := h; go_simp; with_reducible rfl)
  simp only [Act.put, lyA, lyB, lyC, lyD, lyE, lyF]
  refine JO 4 (v := ?vc4) I0 ?yc4 ?rc4
  case yc4 => (intro w h; obtain ⟨_, _, _⟩ := h; go_simp; with_reducible rfl)
  simp only [Act.put, lyA, lyB, lyC, lyD, lyE, lyF]
  refine JO 6 (v := ?vc6) I0 ?yc6 ?rc6
  case yc6 => (intro w h; obtain ⟨_, _, _⟩ := h; go_simp; with_reducible rfl)
  simp only [Act.put, lyA, lyB, lyC, lyD, lyE, lyF]
  refine JO 7 (v := ?vc7) I0 ?yc7 ?rc7
  case yc7 => (intro w h; obtain ⟨_, _, _⟩ := h; go_simp; with_reducible rfl)
  simp only [Act.put, lyA, lyB, lyC, lyD, lyE, lyF]
  refine JO 8 (v := ?vc8) I0 ?yc8 ?rc8
  case yc8 => (intro w h; obtain ⟨_, _, _⟩ := h; go_simp; with_reducible rfl)
  simp only [Act.put, lyA, lyB, lyC, lyD, lyE, lyF]
  refine JO 9 (v := ?vc9) I0 ?yc9 ?rc9
  case yc9 => (intro w h; obtain ⟨_, _, _⟩ := h; go_simp; with_reducible rfl)
  simp only [Act.put, lyA, lyB, lyC, lyD, lyE, lyF]
  refine JO 10 (v := ?vc10) I0 ?yc10 ?rc10
  case yc10 => (intro w h; obtain ⟨_, _, _⟩ := h; go_simp; with_reducible rfl)
  simp only [Act.put, lyA, lyB, lyC, lyD, lyE, lyF]
  refine J_one 5 rfl (by kernel_rfl) (fun K hK => ?_)
  go_simp
  refine (hC1.out W1 hx1.out).mono ?_
  rintro e w2 ⟨rfl, ht⟩
  have hsz1 := hx1.out.size
  obtain ⟨F', hP2, k2, hF2⟩ := PTo.turn hF.out (Nat.lt_of_lt_of_le hlt.out hsz1) ht
  have hkeep : ∀ (j : Nat) (u : Value), W1.cell? ⟨b, j, none⟩ = some u → w2.cell? ⟨b, j, none⟩ = some u := fun j u hu => by
    rw [World.cell?_of_block (hF2.2.2.2.2 b (World.block_lt_of_cell? _ _ hu) (hFb.out b (by have := hb.out; omega)))]
    exact hu
  have I2 : (fun w' : World => w'.cell? ⟨b, 1, none⟩ = some (.int .i64 x.a) ∧ w'.cell? ⟨b, 4, none⟩ = some (.string x.s) ∧ w'.cell? ⟨b, 5, none⟩ = some (.string x.t)) w2 := ⟨hkeep 1 _ I0.1, hkeep 4 _ I0.2.1, hkeep 5 _ I0.2.2⟩
  replace hP2 := hid hP2
  replace k2 := hid k2
  replace hF2 := hid hF2
  clear ht hkeep
  refine hK _ _ ⟨fun _ => I2, ?_⟩
  clear hK K
  try simp only [Act.put, lyA, lyB, lyC, lyD, lyE, lyF]
  refine J_one 11 rfl (by kernel_rfl) (fun K hK => ?_)
  go_simp
  refine (hC2.out W1 w2 hx1.out hF2.out).mono ?_
  rintro e w3 ⟨rfl, ht⟩
  have hres := hid (hfin.out W1 w2 w3 F' hx1.out hP2.out k2.out hF2.out ht)
  have hsz1 := hx1.out.size
  have hsz2 := hF2.out.2.2.2.1
  have hkeep : ∀ (j : Nat) (u : Value), w2.cell? ⟨b, j, none⟩ = some u → w3.cell? ⟨b, j, none⟩ = some u := fun j u hu => by
    obtain ⟨G', -, -, h3⟩ := ht
    rw [World.cell?_of_block (h3.2.2.2.2 b (World.block_lt_of_cell? _ _ hu) (if_neg (fun e => by have := hrlt.out; have := hb.out; omega)))]
    exact hu
  have I3 : (fun w' : World => w'.cell? ⟨b, 1, none⟩ = some (.int .i64 x.a) ∧ w'.cell? ⟨b, 4, none⟩ = some (.string x.s) ∧ w'.cell? ⟨b, 5, none⟩ = some (.string x.t)) w3 := ⟨hkeep 1 _ I2.1, hkeep 4 _ I2.2.1, hkeep 5 _ I2.2.2⟩
  clear ht hkeep hsz1 hsz2
  refine hK _ _ ⟨fun _ => I3, ?_⟩
  clear hK K
  try simp only [Act.put, lyA, lyB, lyC, lyD, lyE, lyF]
  refine J_one 12 rfl (by kernel_rfl) (fun K hK => ?_)
  go_simp
  refine hK _ _ ⟨fun _ => I3, ?_⟩
  clear hK K
  try simp only [Act.put, lyD, lyE, lyF]
  refine J_one 13 rfl (by kernel_rfl) (fun K hK => ?_)
  go_simp
  refine hK _ _ ⟨fun _ => I3, ?_⟩
  clear hK K
  try simp only [Act.put, lyD, lyE, lyF]
  refine J_done (by kernel_rfl) (OnlyOn.normal ?_)
  go_wp2
  go_ret
  exact ⟨rfl, hres.out⟩
theorem play_2 (t r : Nat) (x : Ac) (L : List Te) (X : Nat × BT) (F G : Nat → Nat) (w : World) (hP : PTo w t L X F) (hR : RTo w r L G) (hD : Dj F G) (hl : L.length ≤ 1200) (h : x.op = 2) : Calls Tryz.prog 8 #[.pointer (some ⟨t, 0, none⟩), .pointer (some ⟨r, 0, none⟩), .agg #[.int .i64 x.op, .int .i64 x.a, .int .i64 x.b, .int .i64 x.c, .string x.s, .string x.t]] w (GivePl x L X F G t r w) := by
  have hop : x.op = 2 := h
  have d0 : (x.op == 0) = false := by rw [beq_eq_false_iff_ne, hop]; decide
  have d1 : (x.op == 1) = false := by rw [beq_eq_false_iff_ne, hop]; decide
  have d2 : (x.op == 2) = true := by rw [hop]; rfl
  have hst := hid (fun w' (hx : Ext w w') => Pair2.stay (x := x) (X := X) (by rw [h]; decide) (by rw [h]; decide) hP hR hD hx)
  have hst' := hst
  have hPx := hid (fun w' (hx : Ext w w') => hP.ext hx)
  have hRx := hid (fun w' (hx : Ext w w') => (hR.ext hx).rt)
  have hsr := hid hP.sr
  obtain ⟨k, hk⟩ : ∃ k, Hid (k = rankT L ⟨x.s, x.a⟩) := ⟨_, rfl⟩
  have hC1 : Hid (∀ w', Ext w w' → Calls Tryz.prog 17 #[.pointer (some ⟨t, 0, none⟩), .string x.s, .int .i64 x.a] w' (Give (.int .i64 k) w')) := fun w' hx => by
    obtain ⟨p, fT, H, -⟩ := hPx.out w' hx
    rw [hk.out]
    exact Rank_any t L X.1 p X.2 fT x.s x.a w' H
  have hC2 := hid (fun w' (hx : Ext w w') => rRank_any r L x.s x.a w' (hRx.out w' hx) hsr.out (by omega) k hk)
  clear hk hPx hRx hst'
  have hx1 := hid ((Ext.refl w).alloc_right (.cells #[.int .i64 x.op, .int .i64 x.a, .int .i64 x.b, .int .i64 x.c, .string x.s, .string x.t] 34))
  have ha := heap_alloc_new w (.cells #[.int .i64 x.op, .int .i64 x.a, .int .i64 x.b, .int .i64 x.c, .string x.s, .string x.t] 34)
  have z0 : (w.alloc (.cells #[.int .i64 x.op, .int .i64 x.a, .int .i64 x.b, .int .i64 x.c, .string x.s, .string x.t] 34)).cell? ⟨w.heap.size, 0, none⟩ = some (.int .i64 x.op) := by rw [Lib.cell_of_heap ha]; rfl
  have z1 : (w.alloc (.cells #[.int .i64 x.op, .int .i64 x.a, .int .i64 x.b, .int .i64 x.c, .string x.s, .string x.t] 34)).cell? ⟨w.heap.size, 1, none⟩ = some (.int .i64 x.a) := by rw [Lib.cell_of_heap ha]; rfl
  have z4 : (w.alloc (.cells #[.int .i64 x.op, .int .i64 x.a, .int .i64 x.b, .int .i64 x.c, .string x.s, .string x.t] 34)).cell? ⟨w.heap.size, 4, none⟩ = some (.string x.s) := by rw [Lib.cell_of_heap ha]; rfl
  have z5 : (w.alloc (.cells #[.int .i64 x.op, .int .i64 x.a, .int .i64 x.b, .int .i64 x.c, .string x.s, .string x.t] 34)).cell? ⟨w.heap.size, 5, none⟩ = some (.string x.t) := by rw [Lib.cell_of_heap ha]; rfl
  have lb := (Array.getElem?_eq_some_iff.1 ha).1
  clear ha
  clear hop h
  clear hP hR hD
  go_enter Tryz.func8, Tryz.ntmps8
  go_upto_region 1 with fail
  obtain ⟨b, hb⟩ : ∃ b, b = w.heap.size := ⟨_, rfl⟩
  rw [← hb] at z0 z1 z4 z5 lb
  simp only [← hb]
  replace hb := hid hb
  generalize w.alloc (.cells #[.int .i64 x.op, .int .i64 x.a, .int .i64 x.b, .int .i64 x.c, .string x.s, .string x.t] 34) = W1 at *
  go_upto_region 7 with fail
  have I0 : (fun w' : World => w'.cell? ⟨b, 1, none⟩ = some (.int .i64 x.a) ∧ w'.cell? ⟨b, 4, none⟩ = some (.string x.s) ∧ w'.cell? ⟨b, 5, none⟩ = some (.string x.t)) W1.drew := ⟨z1, z4, z5⟩
  refine region_J (fun w' : World => w'.cell? ⟨b, 1, none⟩ = some (.int .i64 x.a) ∧ w'.cell? ⟨b, 4, none⟩ = some (.string x.s) ∧ w'.cell? ⟨b, 5, none⟩ = some (.string x.t)) 14 (by kernel_rfl) ?_
  replace hx1 := hid (hx1.out.drew_right)
  clear z0 z1 z4 z5 lb
  generalize W1.drew = W1 at *
  refine JO 0 (v := ?vc0) I0 ?yc0 ?rc0
  case yc0 => (intro w h; obtain ⟨_, _, _⟩ := h; go_simp; with_reducible rfl)
  simp only [Act.put, lyA, lyB, lyC, lyD, lyE, lyF]
  refine JO 1 (v := ?vc1) I0 ?yc1 ?rc1
  case yc1 => (intro w h; obtain ⟨_, _, _⟩ := h; go_simp; with_reducible rfl)
  simp only [Act.put, lyA, lyB, lyC, lyD, lyE, lyF]
  refine JO 2 (v := ?vc2) I0 ?yc2 ?rc2
  case yc2 => (intro w h; obtain ⟨_, _, _⟩ := h; go_simp; with_reducible rfl)
  simp only [Act.put, lyA, lyB, lyC, lyD, lyE, lyF]
  refine JO 3 (v := ?vc3) I0 ?yc3 ?rc3
  case yc3 => (intro w h; obtain ⟨_, _, _⟩ := h; go_simp; with_reducible rfl)
  simp only [Act.put, lyA, lyB, lyC, lyD, lyE, lyF]
  refine JO 4 (v := ?vc4) I0 ?yc4 ?rc4
  case yc4 => (intro w h; obtain ⟨_, _, _⟩ := h; go_simp; with_reducible rfl)
  simp only [Act.put, lyA, lyB, lyC, lyD, lyE, lyF]
  refine JO 6 (v := ?vc6) I0 ?yc6 ?rc6
  case yc6 => (intro w h; obtain ⟨_, _, _⟩ := h; go_simp; with_reducible rfl)
  simp only [Act.put, lyA, lyB, lyC, lyD, lyE, lyF]
  refine JO 7 (v := ?vc7) I0 ?yc7 ?rc7
  case yc7 => (intro w h; obtain ⟨_, _, _⟩ := h; go_simp; with_reducible rfl)
  simp only [Act.put, lyA, lyB, lyC, lyD, lyE, lyF]
  refine JO 8 (v := ?vc8) I0 ?yc8 ?rc8
  case yc8 => (intro w h; obtain ⟨_, _, _⟩ := h; go_simp; with_reducible rfl)
  simp only [Act.put, lyA, lyB, lyC, lyD, lyE, lyF]
  refine JO 9 (v := ?vc9) I0 ?yc9 ?rc9
  case yc9 => (intro w h; obtain ⟨_, _, _⟩ := h; go_simp; with_reducible rfl)
  simp only [Act.put, lyA, lyB, lyC, lyD, lyE, lyF]
  refine JO 10 (v := ?vc10) I0 ?yc10 ?rc10
  case yc10 => (intro w h; obtain ⟨_, _, _⟩ := h; go_simp; with_reducible rfl)
  simp only [Act.put, lyA, lyB, lyC, lyD, lyE, lyF]
  refine J_one 5 rfl (by kernel_rfl) (fun K hK => ?_)
  go_simp
  refine (hC1.out W1 hx1.out).mono ?_
  rintro e w2 ⟨rfl, hx2⟩
  replace hx1 := hid (hx1.out.trans hx2)
  have I2 : (fun w' : World => w'.cell? ⟨b, 1, none⟩ = some (.int .i64 x.a) ∧ w'.cell? ⟨b, 4, none⟩ = some (.string x.s) ∧ w'.cell? ⟨b, 5, none⟩ = some (.string x.t)) w2 := ⟨hx2.cell I0.1, hx2.cell I0.2.1, hx2.cell I0.2.2⟩
  clear hx2
  refine hK _ _ ⟨fun _ => I2, ?_⟩
  clear hK K
  try simp only [Act.put, lyA, lyB, lyC, lyD, lyE, lyF]
  refine J_one 11 rfl (by kernel_rfl) (fun K hK => ?_)
  go_simp
  refine (hC2.out w2 hx1.out).mono ?_
  rintro e w3 ⟨rfl, hx3⟩
  replace hx1 := hid (hx1.out.trans hx3)
  have I3 : (fun w' : World => w'.cell? ⟨b, 1, none⟩ = some (.int .i64 x.a) ∧ w'.cell? ⟨b, 4, none⟩ = some (.string x.s) ∧ w'.cell? ⟨b, 5, none⟩ = some (.string x.t)) w3 := ⟨hx3.cell I2.1, hx3.cell I2.2.1, hx3.cell I2.2.2⟩
  clear hx3
  refine hK _ _ ⟨fun _ => I3, ?_⟩
  clear hK K
  try simp only [Act.put, lyA, lyB, lyC, lyD, lyE, lyF]
  refine J_one 12 rfl (by kernel_rfl) (fun K hK => ?_)
  go_simp
  refine hK _ _ ⟨fun _ => I3, ?_⟩
  clear hK K
  try simp only [Act.put, lyD, lyE, lyF]
  refine J_one 13 rfl (by kernel_rfl) (fun K hK => ?_)
  go_simp
  refine hK _ _ ⟨fun _ => I3, ?_⟩
  clear hK K
  try simp only [Act.put, lyD, lyE, lyF]
  refine J_done (by kernel_rfl) (OnlyOn.normal ?_)
  go_wp2
  go_ret
  exact ⟨rfl, hst.out _ hx1.out⟩
theorem play_8 (t r : Nat) (x : Ac) (L : List Te) (X : Nat × BT) (F G : Nat → Nat) (w : World) (hP : PTo w t L X F) (hR : RTo w r L G) (hD : Dj F G) (hl : L.length ≤ 1200) (h : x.op = 8) : Calls Tryz.prog 8 #[.pointer (some ⟨t, 0, none⟩), .pointer (some ⟨r, 0, none⟩), .agg #[.int .i64 x.op, .int .i64 x.a, .int .i64 x.b, .int .i64 x.c, .string x.s, .string x.t]] w (GivePl x L X F G t r w) := by
  have hop : x.op = 8 := h
  have d0 : (x.op == 0) = false := by rw [beq_eq_false_iff_ne, hop]; decide
  have d1 : (x.op == 1) = false := by rw [beq_eq_false_iff_ne, hop]; decide
  have d2 : (x.op == 2) = false := by rw [beq_eq_false_iff_ne, hop]; decide
  have d3 : (x.op == 3) = false := by rw [beq_eq_false_iff_ne, hop]; decide
  have d4 : (x.op == 4) = false := by rw [beq_eq_false_iff_ne, hop]; decide
  have d5 : (x.op == 5) = false := by rw [beq_eq_false_iff_ne, hop]; decide
  have d6 : (x.op == 6) = false := by rw [beq_eq_false_iff_ne, hop]; decide
  have d7 : (x.op == 7) = false := by rw [beq_eq_false_iff_ne, hop]; decide
  have d8 : (x.op == 8) = true := by rw [hop]; rfl
  have hst := hid (fun w' (hx : Ext w w') => Pair2.stay (x := x) (X := X) (by rw [h]; decide) (by rw [h]; decide) hP hR hD hx)
  have hst' := hst
  have hPx := hid (fun w' (hx : Ext w w') => hP.ext hx)
  have hRx := hid (fun w' (hx : Ext w w') => (hR.ext hx).rt)
  have hsr := hid hP.sr
  obtain ⟨l, hl2⟩ : ∃ l, Hid (l = betwT L x.s x.t) := ⟨_, rfl⟩
  have hC1 : Hid (∀ w', Ext w w' → Calls Tryz.prog 36 #[.pointer (some ⟨t, 0, none⟩), .string x.s, .string x.t] w' (Give (.int .i64 l.length) w')) := fun w' hx => by
    obtain ⟨p, fT, H, -⟩ := hPx.out w' hx
    exact Count_any t L X.1 p X.2 fT x.s x.t w' H l hl2
  have hC2 := hid (fun w' (hx : Ext w w') => rCount_any r L x.s x.t w' (hRx.out w' hx) hsr.out (by omega) l hl2)
  clear hl2 hPx hRx hst'
  have hx1 := hid ((Ext.refl w).alloc_right (.cells #[.int .i64 x.op, .int .i64 x.a, .int .i64 x.b, .int .i64 x.c, .string x.s, .string x.t] 34))
  have ha := heap_alloc_new w (.cells #[.int .i64 x.op, .int .i64 x.a, .int .i64 x.b, .int .i64 x.c, .string x.s, .string x.t] 34)
  have z0 : (w.alloc (.cells #[.int .i64 x.op, .int .i64 x.a, .int .i64 x.b, .int .i64 x.c, .string x.s, .string x.t] 34)).cell? ⟨w.heap.size, 0, none⟩ = some (.int .i64 x.op) := by rw [Lib.cell_of_heap ha]; rfl
  have z1 : (w.alloc (.cells #[.int .i64 x.op, .int .i64 x.a, .int .i64 x.b, .int .i64 x.c, .string x.s, .string x.t] 34)).cell? ⟨w.heap.size, 1, none⟩ = some (.int .i64 x.a) := by rw [Lib.cell_of_heap ha]; rfl
  have z4 : (w.alloc (.cells #[.int .i64 x.op, .int .i64 x.a, .int .i64 x.b, .int .i64 x.c, .string x.s, .string x.t] 34)).cell? ⟨w.heap.size, 4, none⟩ = some (.string x.s) := by rw [Lib.cell_of_heap ha]; rfl
  have z5 : (w.alloc (.cells #[.int .i64 x.op, .int .i64 x.a, .int .i64 x.b, .int .i64 x.c, .string x.s, .string x.t] 34)).cell? ⟨w.heap.size, 5, none⟩ = some (.string x.t) := by rw [Lib.cell_of_heap ha]; rfl
  have lb := (Array.getElem?_eq_some_iff.1 ha).1
  clear ha
  clear hop h
  clear hP hR hD
  go_enter Tryz.func8, Tryz.ntmps8
  go_upto_region 1 with fail
  obtain ⟨b, hb⟩ : ∃ b, b = w.heap.size := ⟨_, rfl⟩
  rw [← hb] at z0 z1 z4 z5 lb
  simp only [← hb]
  replace hb := hid hb
  generalize w.alloc (.cells #[.int .i64 x.op, .int .i64 x.a, .int .i64 x.b, .int .i64 x.c, .string x.s, .string x.t] 34) = W1 at *
  go_upto_region 29 with fail
  have I0 : (fun w' : World => w'.cell? ⟨b, 1, none⟩ = some (.int .i64 x.a) ∧ w'.cell? ⟨b, 4, none⟩ = some (.string x.s) ∧ w'.cell? ⟨b, 5, none⟩ = some (.string x.t)) W1.drew := ⟨z1, z4, z5⟩
  refine region_J (fun w' : World => w'.cell? ⟨b, 1, none⟩ = some (.int .i64 x.a) ∧ w'.cell? ⟨b, 4, none⟩ = some (.string x.s) ∧ w'.cell? ⟨b, 5, none⟩ = some (.string x.t)) 14 (by kernel_rfl) ?_
  replace hx1 := hid (hx1.out.drew_right)
  clear z0 z1 z4 z5 lb
  generalize W1.drew = W1 at *
  refine JO 0 (v := ?vc0) I0 ?yc0 ?rc0
  case yc0 => (intro w h; obtain ⟨_, _, _⟩ := h; go_simp; with_reducible rfl)
  simp only [Act.put, lyA, lyB, lyC, lyD, lyE, lyF]
  refine JO 1 (v := ?vc1) I0 ?yc1 ?rc1
  case yc1 => (intro w h; obtain ⟨_, _, _⟩ := h; go_simp; with_reducible rfl)
  simp only [Act.put, lyA, lyB, lyC, lyD, lyE, lyF]
  refine JO 2 (v := ?vc2) I0 ?yc2 ?rc2
  case yc2 => (intro w h; obtain ⟨_, _, _⟩ := h; go_simp; with_reducible rfl)
  simp only [Act.put, lyA, lyB, lyC, lyD, lyE, lyF]
  refine JO 3 (v := ?vc3) I0 ?yc3 ?rc3
  case yc3 => (intro w h; obtain ⟨_, _, _⟩ := h; go_simp; with_reducible rfl)
  simp only [Act.put, lyA, lyB, lyC, lyD, lyE, lyF]
  refine JO 4 (v := ?vc4) I0 ?yc4 ?rc4
  case yc4 => (intro w h; obtain ⟨_, _, _⟩ := h; go_simp; with_reducible rfl)
  simp only [Act.put, lyA, lyB, lyC, lyD, lyE, lyF]
  refine JO 6 (v := ?vc6) I0 ?yc6 ?rc6
  case yc6 => (intro w h; obtain ⟨_, _, _⟩ := h; go_simp; with_reducible rfl)
  simp only [Act.put, lyA, lyB, lyC, lyD, lyE, lyF]
  refine JO 7 (v := ?vc7) I0 ?yc7 ?rc7
  case yc7 => (intro w h; obtain ⟨_, _, _⟩ := h; go_simp; with_reducible rfl)
  simp only [Act.put, lyA, lyB, lyC, lyD, lyE, lyF]
  refine JO 8 (v := ?vc8) I0 ?yc8 ?rc8
  case yc8 => (intro w h; obtain ⟨_, _, _⟩ := h; go_simp; with_reducible rfl)
  simp only [Act.put, lyA, lyB, lyC, lyD, lyE, lyF]
  refine JO 9 (v := ?vc9) I0 ?yc9 ?rc9
  case yc9 => (intro w h; obtain ⟨_, _, _⟩ := h; go_simp; with_reducible rfl)
  simp only [Act.put, lyA, lyB, lyC, lyD, lyE, lyF]
  refine JO 10 (v := ?vc10) I0 ?yc10 ?rc10
  case yc10 => (intro w h; obtain ⟨_, _, _⟩ := h; go_simp; with_reducible rfl)
  simp only [Act.put, lyA, lyB, lyC, lyD, lyE, lyF]
  refine J_one 5 rfl (by kernel_rfl) (fun K hK => ?_)
  go_simp
  refine (hC1.out W1 hx1.out).mono ?_
  rintro e w2 ⟨rfl, hx2⟩
  replace hx1 := hid (hx1.out.trans hx2)
  have I2 : (fun w' : World => w'.cell? ⟨b, 1, none⟩ = some (.int .i64 x.a) ∧ w'.cell? ⟨b, 4, none⟩ = some (.string x.s) ∧ w'.cell? ⟨b, 5, none⟩ = some (.string x.t)) w2 := ⟨hx2.cell I0.1, hx2.cell I0.2.1, hx2.cell I0.2.2⟩
  clear hx2
  refine hK _ _ ⟨fun _ => I2, ?_⟩
  clear hK K
  try simp only [Act.put, lyA, lyB, lyC, lyD, lyE, lyF]
  refine J_one 11 rfl (by kernel_rfl) (fun K hK => ?_)
  go_simp
  refine (hC2.out w2 hx1.out).mono ?_
  rintro e w3 ⟨rfl, hx3⟩
  replace hx1 := hid (hx1.out.trans hx3)
  have I3 : (fun w' : World => w'.cell? ⟨b, 1, none⟩ = some (.int .i64 x.a) ∧ w'.cell? ⟨b, 4, none⟩ = some (.string x.s) ∧ w'.cell? ⟨b, 5, none⟩ = some (.string x.t)) w3 := ⟨hx3.cell I2.1, hx3.cell I2.2.1, hx3.cell I2.2.2⟩
  clear hx3
  refine hK _ _ ⟨fun _ => I3, ?_⟩
  clear hK K
  try simp only [Act.put, lyA, lyB, lyC, lyD, lyE, lyF]
  refine J_one 12 rfl (by kernel_rfl) (fun K hK => ?_)
  go_simp
  refine hK _ _ ⟨fun _ => I3, ?_⟩
  clear hK K
  try simp only [Act.put, lyD, lyE, lyF]
  refine J_one 13 rfl (by kernel_rfl) (fun K hK => ?_)
  go_simp
  refine hK _ _ ⟨fun _ => I3, ?_⟩
  clear hK K
  try simp only [Act.put, lyD, lyE, lyF]
  refine J_done (by kernel_rfl) (OnlyOn.normal ?_)
  go_wp2
  go_ret
  exact ⟨rfl, hst.out _ hx1.out⟩
theorem play_3 (t r : Nat) (x : Ac) (L : List Te) (X : Nat × BT) (F G : Nat → Nat) (w : World) (hP : PTo w t L X F) (hR : RTo w r L G) (hD : Dj F G) (hl : L.length ≤ 1200) (h : x.op = 3) : Calls Tryz.prog 8 #[.pointer (some ⟨t, 0, none⟩), .pointer (some ⟨r, 0, none⟩), .agg #[.int .i64 x.op, .int .i64 x.a, .int .i64 x.b, .int .i64 x.c, .string x.s, .string x.t]] w (GivePl x L X F G t r w) := by
  have hop : x.op = 3 := h
  have d0 : (x.op == 0) = false := by rw [beq_eq_false_iff_ne, hop]; decide
  have d1 : (x.op == 1) = false := by rw [beq_eq_false_iff_ne, hop]; decide
  have d2 : (x.op == 2) = false := by rw [beq_eq_false_iff_ne, hop]; decide
  have d3 : (x.op == 3) = true := by rw [hop]; rfl
  have hst := hid (fun w' (hx : Ext w w') => Pair2.stay (x := x) (X := X) (by rw [h]; decide) (by rw [h]; decide) hP hR hD hx)
  obtain ⟨o, ho⟩ : ∃ o, Hid (o = atT L x.a) := ⟨_, rfl⟩
  have hC1 : Hid (∀ w', Ext w w' → Calls Tryz.prog 23 #[.pointer (some ⟨t, 0, none⟩), .int .i64 x.a] w' (Give (TV o) w')) := fun w' hx => by
    obtain ⟨p, fT, H, -⟩ := hP.ext hx
    exact At_any t L X.1 p X.2 fT x.a w' H o ho
  have hsr := hid hP.sr
  have hC2 := hid (fun w' (hx : Ext w w') => rAt_any r L x.a w' (hR.ext hx).rt o ho)
  clear ho hsr
  have hx1 := hid ((Ext.refl w).alloc_right (.cells #[.int .i64 x.op, .int .i64 x.a, .int .i64 x.b, .int .i64 x.c, .string x.s, .string x.t] 34))
  have ha := heap_alloc_new w (.cells #[.int .i64 x.op, .int .i64 x.a, .int .i64 x.b, .int .i64 x.c, .string x.s, .string x.t] 34)
  have z0 : (w.alloc (.cells #[.int .i64 x.op, .int .i64 x.a, .int .i64 x.b, .int .i64 x.c, .string x.s, .string x.t] 34)).cell? ⟨w.heap.size, 0, none⟩ = some (.int .i64 x.op) := by rw [Lib.cell_of_heap ha]; rfl
  have z1 : (w.alloc (.cells #[.int .i64 x.op, .int .i64 x.a, .int .i64 x.b, .int .i64 x.c, .string x.s, .string x.t] 34)).cell? ⟨w.heap.size, 1, none⟩ = some (.int .i64 x.a) := by rw [Lib.cell_of_heap ha]; rfl
  have z4 : (w.alloc (.cells #[.int .i64 x.op, .int .i64 x.a, .int .i64 x.b, .int .i64 x.c, .string x.s, .string x.t] 34)).cell? ⟨w.heap.size, 4, none⟩ = some (.string x.s) := by rw [Lib.cell_of_heap ha]; rfl
  have z5 : (w.alloc (.cells #[.int .i64 x.op, .int .i64 x.a, .int .i64 x.b, .int .i64 x.c, .string x.s, .string x.t] 34)).cell? ⟨w.heap.size, 5, none⟩ = some (.string x.t) := by rw [Lib.cell_of_heap ha]; rfl
  have lb := (Array.getElem?_eq_some_iff.1 ha).1
  clear ha
  clear hop h
  clear hP hR hD
  go_enter Tryz.func8, Tryz.ntmps8
  go_upto_region 1 with fail
  obtain ⟨b, hb⟩ : ∃ b, b = w.heap.size := ⟨_, rfl⟩
  rw [← hb] at z0 z1 z4 z5 lb
  simp only [← hb]
  replace hb := hid hb
  generalize w.alloc (.cells #[.int .i64 x.op, .int .i64 x.a, .int .i64 x.b, .int .i64 x.c, .string x.s, .string x.t] 34) = W1 at *
  go_wp2_with fail
  refine (hC1.out W1 hx1.out).mono ?_
  rintro e w2 ⟨rfl, hx2⟩
  replace z1 := hx2.cell z1
  replace z4 := hx2.cell z4
  replace lb := Nat.lt_of_lt_of_le lb hx2.size
  replace hx1 := hid (hx1.out.trans hx2)
  clear hx2 z0 z5
  cases o with
  | none =>
    simp only [TV]
    go_wp2_with fail
    refine (hC2.out w2 hx1.out).mono ?_
    rintro e w3 ⟨rfl, hx3⟩
    replace hx1 := hid (hx1.out.trans hx3)
    simp only [TV]
    clear hx3 z1 z4 lb
    go_wp2_with fail
    refine (found_any _ _ _ _).mono ?_
    rintro e w4 ⟨rfl, rfl⟩
    go_wp2
    go_ret
    exact ⟨rfl, hst.out _ hx1.out⟩
  | some y =>
    simp only [TV]
    go_wp2_with fail
    refine (hC2.out w2 hx1.out).mono ?_
    rintro e w3 ⟨rfl, hx3⟩
    replace hx1 := hid (hx1.out.trans hx3)
    simp only [TV]
    clear hx3 z1 z4 lb
    go_wp2_with fail
    refine (found_any _ _ _ _).mono ?_
    rintro e w4 ⟨rfl, rfl⟩
    go_wp2
    go_ret
    exact ⟨rfl, hst.out _ hx1.out⟩
theorem play_4 (t r : Nat) (x : Ac) (L : List Te) (X : Nat × BT) (F G : Nat → Nat) (w : World) (hP : PTo w t L X F) (hR : RTo w r L G) (hD : Dj F G) (hl : L.length ≤ 1200) (h : x.op = 4) : Calls Tryz.prog 8 #[.pointer (some ⟨t, 0, none⟩), .pointer (some ⟨r, 0, none⟩), .agg #[.int .i64 x.op, .int .i64 x.a, .int .i64 x.b, .int .i64 x.c, .string x.s, .string x.t]] w (GivePl x L X F G t r w) := by
  have hop : x.op = 4 := h
  have d0 : (x.op == 0) = false := by rw [beq_eq_false_iff_ne, hop]; decide
  have d1 : (x.op == 1) = false := by rw [beq_eq_false_iff_ne, hop]; decide
  have d2 : (x.op == 2) = false := by rw [beq_eq_false_iff_ne, hop]; decide
  have d3 : (x.op == 3) = false := by rw [beq_eq_false_iff_ne, hop]; decide
  have d4 : (x.op == 4) = true := by rw [hop]; rfl
  have hst := hid (fun w' (hx : Ext w w') => Pair2.stay (x := x) (X := X) (by rw [h]; decide) (by rw [h]; decide) hP hR hD hx)
  obtain ⟨o, ho⟩ : ∃ o, Hid (o = L[keyR L x.s]?) := ⟨_, rfl⟩
  have hC1 : Hid (∀ w', Ext w w' → Calls Tryz.prog 26 #[.pointer (some ⟨t, 0, none⟩), .string x.s] w' (Give (TV o) w')) := fun w' hx => by
    obtain ⟨p, fT, H, -⟩ := hP.ext hx
    exact Seek_any t L X.1 p X.2 fT x.s w' H o ho
  have hsr := hid hP.sr
  have hC2 := hid (fun w' (hx : Ext w w') => rSeek_any r L x.s w' (hR.ext hx).rt (by omega) o ho)
  clear ho hsr
  have hx1 := hid ((Ext.refl w).alloc_right (.cells #[.int .i64 x.op, .int .i64 x.a, .int .i64 x.b, .int .i64 x.c, .string x.s, .string x.t] 34))
  have ha := heap_alloc_new w (.cells #[.int .i64 x.op, .int .i64 x.a, .int .i64 x.b, .int .i64 x.c, .string x.s, .string x.t] 34)
  have z0 : (w.alloc (.cells #[.int .i64 x.op, .int .i64 x.a, .int .i64 x.b, .int .i64 x.c, .string x.s, .string x.t] 34)).cell? ⟨w.heap.size, 0, none⟩ = some (.int .i64 x.op) := by rw [Lib.cell_of_heap ha]; rfl
  have z1 : (w.alloc (.cells #[.int .i64 x.op, .int .i64 x.a, .int .i64 x.b, .int .i64 x.c, .string x.s, .string x.t] 34)).cell? ⟨w.heap.size, 1, none⟩ = some (.int .i64 x.a) := by rw [Lib.cell_of_heap ha]; rfl
  have z4 : (w.alloc (.cells #[.int .i64 x.op, .int .i64 x.a, .int .i64 x.b, .int .i64 x.c, .string x.s, .string x.t] 34)).cell? ⟨w.heap.size, 4, none⟩ = some (.string x.s) := by rw [Lib.cell_of_heap ha]; rfl
  have z5 : (w.alloc (.cells #[.int .i64 x.op, .int .i64 x.a, .int .i64 x.b, .int .i64 x.c, .string x.s, .string x.t] 34)).cell? ⟨w.heap.size, 5, none⟩ = some (.string x.t) := by rw [Lib.cell_of_heap ha]; rfl
  have lb := (Array.getElem?_eq_some_iff.1 ha).1
  clear ha
  clear hop h
  clear hP hR hD
  go_enter Tryz.func8, Tryz.ntmps8
  go_upto_region 1 with fail
  obtain ⟨b, hb⟩ : ∃ b, b = w.heap.size := ⟨_, rfl⟩
  rw [← hb] at z0 z1 z4 z5 lb
  simp only [← hb]
  replace hb := hid hb
  generalize w.alloc (.cells #[.int .i64 x.op, .int .i64 x.a, .int .i64 x.b, .int .i64 x.c, .string x.s, .string x.t] 34) = W1 at *
  go_wp2_with fail
  refine (hC1.out W1 hx1.out).mono ?_
  rintro e w2 ⟨rfl, hx2⟩
  replace z1 := hx2.cell z1
  replace z4 := hx2.cell z4
  replace lb := Nat.lt_of_lt_of_le lb hx2.size
  replace hx1 := hid (hx1.out.trans hx2)
  clear hx2 z0 z5
  cases o with
  | none =>
    simp only [TV]
    go_wp2_with fail
    refine (hC2.out w2 hx1.out).mono ?_
    rintro e w3 ⟨rfl, hx3⟩
    replace hx1 := hid (hx1.out.trans hx3)
    simp only [TV]
    clear hx3 z1 z4 lb
    go_wp2_with fail
    refine (found_any _ _ _ _).mono ?_
    rintro e w4 ⟨rfl, rfl⟩
    go_wp2
    go_ret
    exact ⟨rfl, hst.out _ hx1.out⟩
  | some y =>
    simp only [TV]
    go_wp2_with fail
    refine (hC2.out w2 hx1.out).mono ?_
    rintro e w3 ⟨rfl, hx3⟩
    replace hx1 := hid (hx1.out.trans hx3)
    simp only [TV]
    clear hx3 z1 z4 lb
    go_wp2_with fail
    refine (found_any _ _ _ _).mono ?_
    rintro e w4 ⟨rfl, rfl⟩
    go_wp2
    go_ret
    exact ⟨rfl, hst.out _ hx1.out⟩
theorem play_5 (t r : Nat) (x : Ac) (L : List Te) (X : Nat × BT) (F G : Nat → Nat) (w : World) (hP : PTo w t L X F) (hR : RTo w r L G) (hD : Dj F G) (hl : L.length ≤ 1200) (h : x.op = 5) : Calls Tryz.prog 8 #[.pointer (some ⟨t, 0, none⟩), .pointer (some ⟨r, 0, none⟩), .agg #[.int .i64 x.op, .int .i64 x.a, .int .i64 x.b, .int .i64 x.c, .string x.s, .string x.t]] w (GivePl x L X F G t r w) := by
  have hop : x.op = 5 := h
  have d0 : (x.op == 0) = false := by rw [beq_eq_false_iff_ne, hop]; decide
  have d1 : (x.op == 1) = false := by rw [beq_eq_false_iff_ne, hop]; decide
  have d2 : (x.op == 2) = false := by rw [beq_eq_false_iff_ne, hop]; decide
  have d3 : (x.op == 3) = false := by rw [beq_eq_false_iff_ne, hop]; decide
  have d4 : (x.op == 4) = false := by rw [beq_eq_false_iff_ne, hop]; decide
  have d5 : (x.op == 5) = true := by rw [hop]; rfl
  have hst := hid (fun w' (hx : Ext w w') => Pair2.stay (x := x) (X := X) (by rw [h]; decide) (by rw [h]; decide) hP hR hD hx)
  obtain ⟨o, ho⟩ : ∃ o, Hid (o = L[nextR L ⟨x.s, x.a⟩]?) := ⟨_, rfl⟩
  have hC1 : Hid (∀ w', Ext w w' → Calls Tryz.prog 28 #[.pointer (some ⟨t, 0, none⟩), .string x.s, .int .i64 x.a] w' (Give (TV o) w')) := fun w' hx => by
    obtain ⟨p, fT, H, -⟩ := hP.ext hx
    exact Next_any t L X.1 p X.2 fT x.s x.a w' H o ho
  have hsr := hid hP.sr
  have hC2 := hid (fun w' (hx : Ext w w') => rNext_any r L x.s x.a w' (hR.ext hx).rt hsr.out (by omega) o ho)
  clear ho hsr
  have hx1 := hid ((Ext.refl w).alloc_right (.cells #[.int .i64 x.op, .int .i64 x.a, .int .i64 x.b, .int .i64 x.c, .string x.s, .string x.t] 34))
  have ha := heap_alloc_new w (.cells #[.int .i64 x.op, .int .i64 x.a, .int .i64 x.b, .int .i64 x.c, .string x.s, .string x.t] 34)
  have z0 : (w.alloc (.cells #[.int .i64 x.op, .int .i64 x.a, .int .i64 x.b, .int .i64 x.c, .string x.s, .string x.t] 34)).cell? ⟨w.heap.size, 0, none⟩ = some (.int .i64 x.op) := by rw [Lib.cell_of_heap ha]; rfl
  have z1 : (w.alloc (.cells #[.int .i64 x.op, .int .i64 x.a, .int .i64 x.b, .int .i64 x.c, .string x.s, .string x.t] 34)).cell? ⟨w.heap.size, 1, none⟩ = some (.int .i64 x.a) := by rw [Lib.cell_of_heap ha]; rfl
  have z4 : (w.alloc (.cells #[.int .i64 x.op, .int .i64 x.a, .int .i64 x.b, .int .i64 x.c, .string x.s, .string x.t] 34)).cell? ⟨w.heap.size, 4, none⟩ = some (.string x.s) := by rw [Lib.cell_of_heap ha]; rfl
  have z5 : (w.alloc (.cells #[.int .i64 x.op, .int .i64 x.a, .int .i64 x.b, .int .i64 x.c, .string x.s, .string x.t] 34)).cell? ⟨w.heap.size, 5, none⟩ = some (.string x.t) := by rw [Lib.cell_of_heap ha]; rfl
  have lb := (Array.getElem?_eq_some_iff.1 ha).1
  clear ha
  clear hop h
  clear hP hR hD
  go_enter Tryz.func8, Tryz.ntmps8
  go_upto_region 1 with fail
  obtain ⟨b, hb⟩ : ∃ b, b = w.heap.size := ⟨_, rfl⟩
  rw [← hb] at z0 z1 z4 z5 lb
  simp only [← hb]
  replace hb := hid hb
  generalize w.alloc (.cells #[.int .i64 x.op, .int .i64 x.a, .int .i64 x.b, .int .i64 x.c, .string x.s, .string x.t] 34) = W1 at *
  go_wp2_with fail
  refine (hC1.out W1 hx1.out).mono ?_
  rintro e w2 ⟨rfl, hx2⟩
  replace z1 := hx2.cell z1
  replace z4 := hx2.cell z4
  replace lb := Nat.lt_of_lt_of_le lb hx2.size
  replace hx1 := hid (hx1.out.trans hx2)
  clear hx2 z0 z5
  cases o with
  | none =>
    simp only [TV]
    go_wp2_with fail
    refine (hC2.out w2 hx1.out).mono ?_
    rintro e w3 ⟨rfl, hx3⟩
    replace hx1 := hid (hx1.out.trans hx3)
    simp only [TV]
    clear hx3 z1 z4 lb
    go_wp2_with fail
    refine (found_any _ _ _ _).mono ?_
    rintro e w4 ⟨rfl, rfl⟩
    go_wp2
    go_ret
    exact ⟨rfl, hst.out _ hx1.out⟩
  | some y =>
    simp only [TV]
    go_wp2_with fail
    refine (hC2.out w2 hx1.out).mono ?_
    rintro e w3 ⟨rfl, hx3⟩
    replace hx1 := hid (hx1.out.trans hx3)
    simp only [TV]
    clear hx3 z1 z4 lb
    go_wp2_with fail
    refine (found_any _ _ _ _).mono ?_
    rintro e w4 ⟨rfl, rfl⟩
    go_wp2
    go_ret
    exact ⟨rfl, hst.out _ hx1.out⟩
theorem play_6 (t r : Nat) (x : Ac) (L : List Te) (X : Nat × BT) (F G : Nat → Nat) (w : World) (hP : PTo w t L X F) (hR : RTo w r L G) (hD : Dj F G) (hl : L.length ≤ 1200) (h : x.op = 6) : Calls Tryz.prog 8 #[.pointer (some ⟨t, 0, none⟩), .pointer (some ⟨r, 0, none⟩), .agg #[.int .i64 x.op, .int .i64 x.a, .int .i64 x.b, .int .i64 x.c, .string x.s, .string x.t]] w (GivePl x L X F G t r w) := by
  have hop : x.op = 6 := h
  have d0 : (x.op == 0) = false := by rw [beq_eq_false_iff_ne, hop]; decide
  have d1 : (x.op == 1) = false := by rw [beq_eq_false_iff_ne, hop]; decide
  have d2 : (x.op == 2) = false := by rw [beq_eq_false_iff_ne, hop]; decide
  have d3 : (x.op == 3) = false := by rw [beq_eq_false_iff_ne, hop]; decide
  have d4 : (x.op == 4) = false := by rw [beq_eq_false_iff_ne, hop]; decide
  have d5 : (x.op == 5) = false := by rw [beq_eq_false_iff_ne, hop]; decide
  have d6 : (x.op == 6) = true := by rw [hop]; rfl
  have hst := hid (fun w' (hx : Ext w w') => Pair2.stay (x := x) (X := X) (by rw [h]; decide) (by rw [h]; decide) hP hR hD hx)
  obtain ⟨o, ho⟩ : ∃ o, Hid (o = atT L ((rankT L ⟨x.s, x.a⟩ : Nat) - 1 : Int)) := ⟨_, rfl⟩
  have hC1 : Hid (∀ w', Ext w w' → Calls Tryz.prog 30 #[.pointer (some ⟨t, 0, none⟩), .string x.s, .int .i64 x.a] w' (Give (TV o) w')) := fun w' hx => by
    obtain ⟨p, fT, H, -⟩ := hP.ext hx
    exact Prev_any t L X.1 p X.2 fT x.s x.a w' H o ho
  have hsr := hid hP.sr
  have hC2 := hid (fun w' (hx : Ext w w') => rPrev_any r L x.s x.a w' (hR.ext hx).rt hsr.out (by omega) o ho)
  clear ho hsr
  have hx1 := hid ((Ext.refl w).alloc_right (.cells #[.int .i64 x.op, .int .i64 x.a, .int .i64 x.b, .int .i64 x.c, .string x.s, .string x.t] 34))
  have ha := heap_alloc_new w (.cells #[.int .i64 x.op, .int .i64 x.a, .int .i64 x.b, .int .i64 x.c, .string x.s, .string x.t] 34)
  have z0 : (w.alloc (.cells #[.int .i64 x.op, .int .i64 x.a, .int .i64 x.b, .int .i64 x.c, .string x.s, .string x.t] 34)).cell? ⟨w.heap.size, 0, none⟩ = some (.int .i64 x.op) := by rw [Lib.cell_of_heap ha]; rfl
  have z1 : (w.alloc (.cells #[.int .i64 x.op, .int .i64 x.a, .int .i64 x.b, .int .i64 x.c, .string x.s, .string x.t] 34)).cell? ⟨w.heap.size, 1, none⟩ = some (.int .i64 x.a) := by rw [Lib.cell_of_heap ha]; rfl
  have z4 : (w.alloc (.cells #[.int .i64 x.op, .int .i64 x.a, .int .i64 x.b, .int .i64 x.c, .string x.s, .string x.t] 34)).cell? ⟨w.heap.size, 4, none⟩ = some (.string x.s) := by rw [Lib.cell_of_heap ha]; rfl
  have z5 : (w.alloc (.cells #[.int .i64 x.op, .int .i64 x.a, .int .i64 x.b, .int .i64 x.c, .string x.s, .string x.t] 34)).cell? ⟨w.heap.size, 5, none⟩ = some (.string x.t) := by rw [Lib.cell_of_heap ha]; rfl
  have lb := (Array.getElem?_eq_some_iff.1 ha).1
  clear ha
  clear hop h
  clear hP hR hD
  go_enter Tryz.func8, Tryz.ntmps8
  go_upto_region 1 with fail
  obtain ⟨b, hb⟩ : ∃ b, b = w.heap.size := ⟨_, rfl⟩
  rw [← hb] at z0 z1 z4 z5 lb
  simp only [← hb]
  replace hb := hid hb
  generalize w.alloc (.cells #[.int .i64 x.op, .int .i64 x.a, .int .i64 x.b, .int .i64 x.c, .string x.s, .string x.t] 34) = W1 at *
  go_wp2_with fail
  refine (hC1.out W1 hx1.out).mono ?_
  rintro e w2 ⟨rfl, hx2⟩
  replace z1 := hx2.cell z1
  replace z4 := hx2.cell z4
  replace lb := Nat.lt_of_lt_of_le lb hx2.size
  replace hx1 := hid (hx1.out.trans hx2)
  clear hx2 z0 z5
  cases o with
  | none =>
    simp only [TV]
    go_wp2_with fail
    refine (hC2.out w2 hx1.out).mono ?_
    rintro e w3 ⟨rfl, hx3⟩
    replace hx1 := hid (hx1.out.trans hx3)
    simp only [TV]
    clear hx3 z1 z4 lb
    go_wp2_with fail
    refine (found_any _ _ _ _).mono ?_
    rintro e w4 ⟨rfl, rfl⟩
    go_wp2
    go_ret
    exact ⟨rfl, hst.out _ hx1.out⟩
  | some y =>
    simp only [TV]
    go_wp2_with fail
    refine (hC2.out w2 hx1.out).mono ?_
    rintro e w3 ⟨rfl, hx3⟩
    replace hx1 := hid (hx1.out.trans hx3)
    simp only [TV]
    clear hx3 z1 z4 lb
    go_wp2_with fail
    refine (found_any _ _ _ _).mono ?_
    rintro e w4 ⟨rfl, rfl⟩
    go_wp2
    go_ret
    exact ⟨rfl, hst.out _ hx1.out⟩
theorem play_7 (t r : Nat) (x : Ac) (L : List Te) (X : Nat × BT) (F G : Nat → Nat) (w : World) (hP : PTo w t L X F) (hR : RTo w r L G) (hD : Dj F G) (hl : L.length ≤ 1200) (h : x.op = 7) : Calls Tryz.prog 8 #[.pointer (some ⟨t, 0, none⟩), .pointer (some ⟨r, 0, none⟩), .agg #[.int .i64 x.op, .int .i64 x.a, .int .i64 x.b, .int .i64 x.c, .string x.s, .string x.t]] w (GivePl x L X F G t r w) := by
  have hop : x.op = 7 := h
  have d0 : (x.op == 0) = false := by rw [beq_eq_false_iff_ne, hop]; decide
  have d1 : (x.op == 1) = false := by rw [beq_eq_false_iff_ne, hop]; decide
  have d2 : (x.op == 2) = false := by rw [beq_eq_false_iff_ne, hop]; decide
  have d3 : (x.op == 3) = false := by rw [beq_eq_false_iff_ne, hop]; decide
  have d4 : (x.op == 4) = false := by rw [beq_eq_false_iff_ne, hop]; decide
  have d5 : (x.op == 5) = false := by rw [beq_eq_false_iff_ne, hop]; decide
  have d6 : (x.op == 6) = false := by rw [beq_eq_false_iff_ne, hop]; decide
  have d7 : (x.op == 7) = true := by rw [hop]; rfl
  have hst := hid (fun w' (hx : Ext w w') => Pair2.stay (x := x) (X := X) (by rw [h]; decide) (by rw [h]; decide) hP hR hD hx)
  obtain ⟨l, hl2⟩ : ∃ l, Hid (l = rangeT (betwT L x.s x.t) x.a) := ⟨_, rfl⟩
  have hC1 : Hid (∀ w', Ext w w' → Calls Tryz.prog 32 #[.pointer (some ⟨t, 0, none⟩), .string x.s, .string x.t, .int .i64 x.a] w' (GiveE l w')) := fun w' hx => by
    obtain ⟨p, fT, H, -⟩ := hP.ext hx
    exact Range_any t L X.1 p X.2 fT x.s x.t x.a w' H l hl2
  have hsr := hid hP.sr
  have hC2 := hid (fun w' (hx : Ext w w') => rRange_any r L x.s x.t x.a w' (hR.ext hx).rt hsr.out (by omega) l hl2)
  clear hl2 hsr
  have hx1 := hid ((Ext.refl w).alloc_right (.cells #[.int .i64 x.op, .int .i64 x.a, .int .i64 x.b, .int .i64 x.c, .string x.s, .string x.t] 34))
  have ha := heap_alloc_new w (.cells #[.int .i64 x.op, .int .i64 x.a, .int .i64 x.b, .int .i64 x.c, .string x.s, .string x.t] 34)
  have z0 : (w.alloc (.cells #[.int .i64 x.op, .int .i64 x.a, .int .i64 x.b, .int .i64 x.c, .string x.s, .string x.t] 34)).cell? ⟨w.heap.size, 0, none⟩ = some (.int .i64 x.op) := by rw [Lib.cell_of_heap ha]; rfl
  have z1 : (w.alloc (.cells #[.int .i64 x.op, .int .i64 x.a, .int .i64 x.b, .int .i64 x.c, .string x.s, .string x.t] 34)).cell? ⟨w.heap.size, 1, none⟩ = some (.int .i64 x.a) := by rw [Lib.cell_of_heap ha]; rfl
  have z4 : (w.alloc (.cells #[.int .i64 x.op, .int .i64 x.a, .int .i64 x.b, .int .i64 x.c, .string x.s, .string x.t] 34)).cell? ⟨w.heap.size, 4, none⟩ = some (.string x.s) := by rw [Lib.cell_of_heap ha]; rfl
  have z5 : (w.alloc (.cells #[.int .i64 x.op, .int .i64 x.a, .int .i64 x.b, .int .i64 x.c, .string x.s, .string x.t] 34)).cell? ⟨w.heap.size, 5, none⟩ = some (.string x.t) := by rw [Lib.cell_of_heap ha]; rfl
  have lb := (Array.getElem?_eq_some_iff.1 ha).1
  clear ha
  clear hop h
  clear hP hR hD
  go_enter Tryz.func8, Tryz.ntmps8
  go_upto_region 1 with fail
  obtain ⟨b, hb⟩ : ∃ b, b = w.heap.size := ⟨_, rfl⟩
  rw [← hb] at z0 z1 z4 z5 lb
  simp only [← hb]
  replace hb := hid hb
  generalize w.alloc (.cells #[.int .i64 x.op, .int .i64 x.a, .int .i64 x.b, .int .i64 x.c, .string x.s, .string x.t] 34) = W1 at *
  go_wp2_with fail
  refine (hC1.out W1 hx1.out).mono ?_
  rintro e w2 ⟨A1, c1, A2, c2, rfl, q1, q2, hx2, -, -⟩
  replace z1 := hx2.cell z1
  replace z4 := hx2.cell z4
  replace z5 := hx2.cell z5
  replace lb := Nat.lt_of_lt_of_le lb hx2.size
  replace hx1 := hid (hx1.out.trans hx2)
  replace q1 := hid q1
  replace q2 := hid q2
  clear hx2 z0 hC1
  go_wp2_with fail
  refine (hC2.out w2 hx1.out).mono ?_
  rintro e w3 ⟨B1, d1, B2, d2, rfl, p1, p2, hx3, -, -⟩
  replace hx1 := hid (hx1.out.trans hx3)
  have hT := hid (sTexts_any A1 l.length c1 B1 d1 (l.map Te.key) w3 (q1.out.ext hx3) p1)
  have hN := hid (fun w' (hx : Ext w3 w') => sInts_any A2 l.length c2 B2 d2 (l.map Te.no) w' ((q2.out.ext hx3).ext hx) (p2.ext hx))
  clear hx3 p1 p2 q1 q2 z1 z4 z5 hC2
  go_wp2_with fail
  refine hT.out.mono ?_
  rintro e w4 ⟨rfl, hx4⟩
  replace hx1 := hid (hx1.out.trans hx4)
  replace hx4 := hid hx4
  go_wp2_with fail
  refine (hN.out w4 hx4.out).mono ?_
  rintro e w5 ⟨rfl, hx5⟩
  replace hx1 := hid (hx1.out.trans hx5)
  clear hx5
  go_wp2
  go_ret
  exact ⟨rfl, hst.out _ hx1.out⟩
theorem play_9 (t r : Nat) (x : Ac) (L : List Te) (X : Nat × BT) (F G : Nat → Nat) (w : World) (hP : PTo w t L X F) (hR : RTo w r L G) (hD : Dj F G) (hl : L.length ≤ 1200) (h : x.op = 9) : Calls Tryz.prog 8 #[.pointer (some ⟨t, 0, none⟩), .pointer (some ⟨r, 0, none⟩), .agg #[.int .i64 x.op, .int .i64 x.a, .int .i64 x.b, .int .i64 x.c, .string x.s, .string x.t]] w (GivePl x L X F G t r w) := by
  have hop : x.op = 9 := h
  have d0 : (x.op == 0) = false := by rw [beq_eq_false_iff_ne, hop]; decide
  have d1 : (x.op == 1) = false := by rw [beq_eq_false_iff_ne, hop]; decide
  have d2 : (x.op == 2) = false := by rw [beq_eq_false_iff_ne, hop]; decide
  have d3 : (x.op == 3) = false := by rw [beq_eq_false_iff_ne, hop]; decide
  have d4 : (x.op == 4) = false := by rw [beq_eq_false_iff_ne, hop]; decide
  have d5 : (x.op == 5) = false := by rw [beq_eq_false_iff_ne, hop]; decide
  have d6 : (x.op == 6) = false := by rw [beq_eq_false_iff_ne, hop]; decide
  have d7 : (x.op == 7) = false := by rw [beq_eq_false_iff_ne, hop]; decide
  have d8 : (x.op == 8) = false := by rw [beq_eq_false_iff_ne, hop]; decide
  have d9 : (x.op == 9) = true := by rw [hop]; rfl
  have hst := hid (fun w' (hx : Ext w w') => Pair2.stay (x := x) (X := X) (by rw [h]; decide) (by rw [h]; decide) hP hR hD hx)
  have hC1 : Hid (∀ w', Ext w w' → Calls Tryz.prog 9 #[.pointer (some ⟨t, 0, none⟩), .pointer (some ⟨r, 0, none⟩)] w' (Give (.bool true) w')) := fun w' hx => by
    obtain ⟨p, fT, H, -⟩ := hP.ext hx
    exact holds_any t L X.1 p X.2 fT r w' H (by have := (lst_le H.sh 0).1; rw [H.fl] at this; omega) (hR.ext hx).rt
  have hx1 := hid ((Ext.refl w).alloc_right (.cells #[.int .i64 x.op, .int .i64 x.a, .int .i64 x.b, .int .i64 x.c, .string x.s, .string x.t] 34))
  have ha := heap_alloc_new w (.cells #[.int .i64 x.op, .int .i64 x.a, .int .i64 x.b, .int .i64 x.c, .string x.s, .string x.t] 34)
  have z0 : (w.alloc (.cells #[.int .i64 x.op, .int .i64 x.a, .int .i64 x.b, .int .i64 x.c, .string x.s, .string x.t] 34)).cell? ⟨w.heap.size, 0, none⟩ = some (.int .i64 x.op) := by rw [Lib.cell_of_heap ha]; rfl
  have z1 : (w.alloc (.cells #[.int .i64 x.op, .int .i64 x.a, .int .i64 x.b, .int .i64 x.c, .string x.s, .string x.t] 34)).cell? ⟨w.heap.size, 1, none⟩ = some (.int .i64 x.a) := by rw [Lib.cell_of_heap ha]; rfl
  have z4 : (w.alloc (.cells #[.int .i64 x.op, .int .i64 x.a, .int .i64 x.b, .int .i64 x.c, .string x.s, .string x.t] 34)).cell? ⟨w.heap.size, 4, none⟩ = some (.string x.s) := by rw [Lib.cell_of_heap ha]; rfl
  have z5 : (w.alloc (.cells #[.int .i64 x.op, .int .i64 x.a, .int .i64 x.b, .int .i64 x.c, .string x.s, .string x.t] 34)).cell? ⟨w.heap.size, 5, none⟩ = some (.string x.t) := by rw [Lib.cell_of_heap ha]; rfl
  have lb := (Array.getElem?_eq_some_iff.1 ha).1
  clear ha
  clear hop h
  clear hP hR hD
  go_enter Tryz.func8, Tryz.ntmps8
  go_upto_region 1 with fail
  obtain ⟨b, hb⟩ : ∃ b, b = w.heap.size := ⟨_, rfl⟩
  rw [← hb] at z0 z1 z4 z5 lb
  simp only [← hb]
  replace hb := hid hb
  generalize w.alloc (.cells #[.int .i64 x.op, .int .i64 x.a, .int .i64 x.b, .int .i64 x.c, .string x.s, .string x.t] 34) = W1 at *
  go_wp2_with fail
  refine (hC1.out W1 hx1.out).mono ?_
  rintro e w2 ⟨rfl, hx2⟩
  replace hx1 := hid (hx1.out.trans hx2)
  clear hx2 z0 z1 z4 z5
  go_wp2
  go_ret
  exact ⟨rfl, hst.out _ hx1.out⟩
theorem play_no (t r : Nat) (x : Ac) (L : List Te) (X : Nat × BT) (F G : Nat → Nat) (w : World) (hP : PTo w t L X F) (hR : RTo w r L G) (hD : Dj F G) (hl : L.length ≤ 1200) (h0 : x.op ≠ 0) (h1 : x.op ≠ 1) (h2 : x.op ≠ 2) (h3 : x.op ≠ 3) (h4 : x.op ≠ 4) (h5 : x.op ≠ 5) (h6 : x.op ≠ 6) (h7 : x.op ≠ 7) (h8 : x.op ≠ 8) (h9 : x.op ≠ 9) : Calls Tryz.prog 8 #[.pointer (some ⟨t, 0, none⟩), .pointer (some ⟨r, 0, none⟩), .agg #[.int .i64 x.op, .int .i64 x.a, .int .i64 x.b, .int .i64 x.c, .string x.s, .string x.t]] w (GivePl x L X F G t r w) := by
  have d0 : (x.op == 0) = false := by rw [beq_eq_false_iff_ne]; exact h0
  have d1 : (x.op == 1) = false := by rw [beq_eq_false_iff_ne]; exact h1
  have d2 : (x.op == 2) = false := by rw [beq_eq_false_iff_ne]; exact h2
  have d3 : (x.op == 3) = false := by rw [beq_eq_false_iff_ne]; exact h3
  have d4 : (x.op == 4) = false := by rw [beq_eq_false_iff_ne]; exact h4
  have d5 : (x.op == 5) = false := by rw [beq_eq_false_iff_ne]; exact h5
  have d6 : (x.op == 6) = false := by rw [beq_eq_false_iff_ne]; exact h6
  have d7 : (x.op == 7) = false := by rw [beq_eq_false_iff_ne]; exact h7
  have d8 : (x.op == 8) = false := by rw [beq_eq_false_iff_ne]; exact h8
  have d9 : (x.op == 9) = false := by rw [beq_eq_false_iff_ne]; exact h9
  have hst := hid (fun w' (hx : Ext w w') => Pair2.stay (x := x) (X := X) h0 h1 hP hR hD hx)
  have hC1 : Hid (∀ w', Ext w w' → Calls Tryz.prog 18 #[.pointer (some ⟨t, 0, none⟩)] w' (Give (.int .i64 L.length) w')) := fun w' hx => by
    obtain ⟨p, fT, H, -⟩ := hP.ext hx
    exact Len_any t L X.1 p X.2 fT w' H
  have hC2 := hid (fun w' (hx : Ext w w') => rLen_any r L w' (hR.ext hx).rt)
  clear h0 h1 h2 h3 h4 h5 h6 h7 h8 h9
  have hx1 := hid ((Ext.refl w).alloc_right (.cells #[.int .i64 x.op, .int .i64 x.a, .int .i64 x.b, .int .i64 x.c, .string x.s, .string x.t] 34))
  have ha := heap_alloc_new w (.cells #[.int .i64 x.op, .int .i64 x.a, .int .i64 x.b, .int .i64 x.c, .string x.s, .string x.t] 34)
  have z0 : (w.alloc (.cells #[.int .i64 x.op, .int .i64 x.a, .int .i64 x.b, .int .i64 x.c, .string x.s, .string x.t] 34)).cell? ⟨w.heap.size, 0, none⟩ = some (.int .i64 x.op) := by rw [Lib.cell_of_heap ha]; rfl
  have z1 : (w.alloc (.cells #[.int .i64 x.op, .int .i64 x.a, .int .i64 x.b, .int .i64 x.c, .string x.s, .string x.t] 34)).cell? ⟨w.heap.size, 1, none⟩ = some (.int .i64 x.a) := by rw [Lib.cell_of_heap ha]; rfl
  have z4 : (w.alloc (.cells #[.int .i64 x.op, .int .i64 x.a, .int .i64 x.b, .int .i64 x.c, .string x.s, .string x.t] 34)).cell? ⟨w.heap.size, 4, none⟩ = some (.string x.s) := by rw [Lib.cell_of_heap ha]; rfl
  have z5 : (w.alloc (.cells #[.int .i64 x.op, .int .i64 x.a, .int .i64 x.b, .int .i64 x.c, .string x.s, .string x.t] 34)).cell? ⟨w.heap.size, 5, none⟩ = some (.string x.t) := by rw [Lib.cell_of_heap ha]; rfl
  have lb := (Array.getElem?_eq_some_iff.1 ha).1
  clear ha
  clear hP hR hD
  go_enter Tryz.func8, Tryz.ntmps8
  go_upto_region 1 with fail
  obtain ⟨b, hb⟩ : ∃ b, b = w.heap.size := ⟨_, rfl⟩
  rw [← hb] at z0 z1 z4 z5 lb
  simp only [← hb]
  replace hb := hid hb
  generalize w.alloc (.cells #[.int .i64 x.op, .int .i64 x.a, .int .i64 x.b, .int .i64 x.c, .string x.s, .string x.t] 34) = W1 at *
  go_wp2_with fail
  refine (hC1.out W1 hx1.out).mono ?_
  rintro e w2 ⟨rfl, hx2⟩
  replace hx1 := hid (hx1.out.trans hx2)
  clear hx2 z0 z1 z4 z5
  go_wp2_with fail
  refine (hC2.out w2 hx1.out).mono ?_
  rintro e w3 ⟨rfl, rfl⟩
  go_wp2
  go_ret
  exact ⟨rfl, hst.out _ hx1.out⟩
theorem played_any (t r : Nat) (x : Ac) (L : List Te) (X : Nat × BT) (F G : Nat → Nat) (w : World) (hP : PTo w t L X F) (hR : RTo w r L G) (hD : Dj F G) (hl : L.length ≤ 1200) : Calls Tryz.prog 8 #[.pointer (some ⟨t, 0, none⟩), .pointer (some ⟨r, 0, none⟩), .agg #[.int .i64 x.op, .int .i64 x.a, .int .i64 x.b, .int .i64 x.c, .string x.s, .string x.t]] w (GivePl x L X F G t r w) := by
  by_cases h0 : x.op = 0
  · exact play_0 t r x L X F G w hP hR hD hl h0
  by_cases h1 : x.op = 1
  · exact play_1 t r x L X F G w hP hR hD hl h1
  by_cases h2 : x.op = 2
  · exact play_2 t r x L X F G w hP hR hD hl h2
  by_cases h3 : x.op = 3
  · exact play_3 t r x L X F G w hP hR hD hl h3
  by_cases h4 : x.op = 4
  · exact play_4 t r x L X F G w hP hR hD hl h4
  by_cases h5 : x.op = 5
  · exact play_5 t r x L X F G w hP hR hD hl h5
  by_cases h6 : x.op = 6
  · exact play_6 t r x L X F G w hP hR hD hl h6
  by_cases h7 : x.op = 7
  · exact play_7 t r x L X F G w hP hR hD hl h7
  by_cases h8 : x.op = 8
  · exact play_8 t r x L X F G w hP hR hD hl h8
  by_cases h9 : x.op = 9
  · exact play_9 t r x L X F G w hP hR hD hl h9
  exact play_no t r x L X F G w hP hR hD hl h0 h1 h2 h3 h4 h5 h6 h7 h8 h9
open Go.RowKit Go.Shelf
def GiveO (n : Nat) (w : World) (e : Ending) (w' : World) : Prop := ∃ b, e = .returned (.bool b) ∧ (b = false → n ≤ 2000) ∧ Ext w w'
theorem over_any (A : Option Addr) (n c : Nat) (l : List Ac) (w : World) (hl : RdA w A n c l) : Calls Tryz.prog 5 #[.slice A n c] w (GiveO n w) := by
  have hmx := Rd.max hl.1
  go_enter Tryz.func5, Tryz.ntmps5
  go_wp2_with fail
  go_loopw [3, 4] (fun s i wr => ∃ (k : Nat) (v : Int), k ≤ n ∧ i = .int .i64 k ∧ s = .int .i64 v ∧ Hid (Ext w wr)) (fun _ i _ => n - (intOf i).toNat)
  case atStart => exact ⟨0, 0, by omega, rfl, rfl, Ext.refl w⟩
  case round =>
    obtain ⟨k, v, hk, rfl, rfl, hx⟩ := hrel
    by_cases hlt : k < n
    · obtain ⟨ad, rfl, z0, z1, z2, z4, z5, hok⟩ := (hl.ext hx.out).at_ hlt
      obtain ⟨o1, o2⟩ := hok
      have hki : (k : Int) < (n : Int) := by omega
      generalize ath l k = x at *
      clear z0 z1 z2
      go_upto_region 5 with fail
      go_quiet (fail)
      go_wp2
      go_roundw
      case rel => exact ⟨k + 1, _, by omega, by go_num, rfl, hx.out.drewN_right _⟩
      case measure => simp [intOf]; omega
    · obtain rfl : k = n := by omega
      by_cases h2 : 2000 < k
      · have h2i : (2000 : Int) < (k : Int) := by omega
        go_wp2
        go_ret
        exact ⟨true, rfl, fun h => (by cases h), hx.out⟩
      · have h2i : ¬ (2000 : Int) < (k : Int) := by omega
        have h2n : k ≤ 2000 := by omega
        by_cases hv : (1048576 : Int) < v
        · go_wp2
          go_ret
          exact ⟨true, rfl, fun h => (by cases h), hx.out⟩
        · go_wp2
          go_ret
          exact ⟨false, rfl, fun _ => h2n, hx.out⟩
open Go.RowKit Go.Shelf
def PQ (w0 w : World) (t r : Nat) (L : List Te) (X : Nat × BT) (F G : Nat → Nat) : Prop := Ext w0 w ∧ PTo w t L X F ∧ RTo w r L G ∧ Dj F G ∧ (∀ a, a < w0.heap.size → F a = 0) ∧ ∀ a, a < w0.heap.size → G a = 0
section
variable {w0 w w' : World} {t r : Nat} {L : List Te} {X : Nat × BT} {F G : Nat → Nat}
theorem PQ.ext (h : PQ w0 w t r L X F G) (hx : Ext w w') : PQ w0 w' t r L X F G := ⟨h.1.trans hx, h.2.1.ext hx, h.2.2.1.ext hx, h.2.2.2⟩
theorem PQ.turn {x : Ac} (h : PQ w0 w t r L X F G) (h2 : Pair2 x L X F G t r w w') : ∃ F' G', PQ w0 w' t r (actL x L) (actX x L X) F' G' := by
  obtain ⟨k1, k2, k3, k4, k5, k6⟩ := h
  obtain ⟨F', G', m1, m2, m3, m4, m5, m6⟩ := h2
  have hs := k1.size
  refine ⟨F', G', k1.trans' m6 (fun a ha => ?_), m1, m2, m3, fun a ha => Classical.byContradiction fun h0 => ?_, fun a ha => Classical.byContradiction fun h0 => ?_⟩
  · show F a + G a = 0
    rw [k5 a ha, k6 a ha]
  · exact m4 a (by omega) h0 (k5 a ha)
  · exact m5 a (by omega) h0 (k6 a ha)
theorem PQ.new {w1 w2 : World} {p : Nat} {fT : Nat → Nat} (hx1 : Ext w0 w1) (hx2 : Ext w1 w2) (h1 : w1.heap.size ≤ t) (hT : TreeAt 0 w2 t [] 0 p (.nd [] []) fT) (hf : ∀ a, a < w1.heap.size → fT a = 0) : ∃ F G, PQ w0 (w2.alloc (.cells #[.slice none 0 0, .slice none 0 0] 31)) t w2.heap.size [] (0, .nd [] []) F G := by
  have s1 := hx1.size
  have s2 := hx2.size
  have hx3 := (Ext.refl w2).alloc_right (.cells #[.slice none 0 0, .slice none 0 0] 31)
  have ha := heap_alloc_new w2 (.cells #[.slice none 0 0, .slice none 0 0] 31)
  have hP : PTo w2 t [] (0, .nd [] []) (fun a => one1 t a + fT a) := ⟨p, fT, hT, fun _ => rfl⟩
  refine ⟨fun a => one1 t a + fT a, one1 w2.heap.size, (hx1.trans hx2).trans hx3, hP.ext hx3, ⟨none, 0, none, 0, ha, Rd.none_ _ 1, RdI.nil _, by rw [one_self]; omega, fun h => absurd h (Nat.lt_irrefl 0), fun h => absurd h (Nat.lt_irrefl 0), fun a h => if_neg (fun e => ?_)⟩, fun a => ?_, fun a h => ?_, fun a h => if_neg (fun e => by omega)⟩
  · rw [World.size_alloc] at h
    omega
  · by_cases e : a = w2.heap.size
    · exact .inl (hP.bound a (by omega))
    · exact .inr (if_neg (fun e' => by omega))
  · show one1 t a + fT a = 0
    rw [hf a (by omega), show one1 t a = 0 from if_neg (by omega)]
theorem PQ.holds (h : PQ w0 w t r L X F G) (hl : L.length ≤ 1200) : Calls Tryz.prog 9 #[.pointer (some ⟨t, 0, none⟩), .pointer (some ⟨r, 0, none⟩)] w (Give (.bool true) w) := by
  obtain ⟨k1, ⟨p, fT, H, -⟩, k3, k4⟩ := h
  have h2 := (lst_le H.sh 0).1
  rw [H.fl] at h2
  exact holds_any t L X.1 p X.2 fT r w H (by omega) k3.rt
end
theorem RdA.at6 {w : World} {A : Option Addr} {n c : Nat} {l : List Ac} (h : RdA w A n c l) {k : Nat} (hk : k < n) : ∃ ad, A = some ad ∧ w.cell? (ad.add (k * 6)) = some (.int .i64 (ath l k).op) ∧ w.cell? ⟨(ad.add (k * 6)).block, (ad.add (k * 6)).off + 1, none⟩ = some (.int .i64 (ath l k).a) ∧ w.cell? ⟨(ad.add (k * 6)).block, (ad.add (k * 6)).off + 2, none⟩ = some (.int .i64 (ath l k).b) ∧
    w.cell? ⟨(ad.add (k * 6)).block, (ad.add (k * 6)).off + 3, none⟩ = some (.int .i64 (ath l k).c) ∧ w.cell? ⟨(ad.add (k * 6)).block, (ad.add (k * 6)).off + 4, none⟩ = some (.string (ath l k).s) ∧ w.cell? ⟨(ad.add (k * 6)).block, (ad.add (k * 6)).off + 5, none⟩ = some (.string (ath l k).t) := by
  have hl := h.len
  have hlt : k < l.length := by omega
  obtain ⟨ad, rfl, hc⟩ := h.1.2.2.2 (by omega)
  have hj : ∀ j v, j < 6 → (acells (ath l k))[j]? = some v → w.cell? (ad.add (k * 6 + j)) = some v := fun j v h6 hv => hc _ _ (by rw [acs_at l k hlt j h6, ← ath_get hlt]; exact hv)
  have hf : ∀ j v, j < 6 → 0 < j → (acells (ath l k))[j]? = some v → w.cell? ⟨(ad.add (k * 6)).block, (ad.add (k * 6)).off + j, none⟩ = some v := fun j v h6 h0 hv => cell_fk (hj j v h6 hv) h0
  exact ⟨ad, rfl, hj 0 _ (by decide) rfl, hf 1 _ (by decide) (by decide) rfl, hf 2 _ (by decide) (by decide) rfl, hf 3 _ (by decide) (by decide) rfl, hf 4 _ (by decide) (by decide) rfl, hf 5 _ (by decide) (by decide) rfl⟩
open Go.RowKit Go.Shelf
structure CN (w W : World) (h q : Nat) (lv kv : Value) (l : List Te) (qs : List Nat) (K : List BT) (g : Nat → Nat) : Prop where
  hx : Ext w W
  hq : W.heap[q]? = some (.cells #[lv, kv] 55 (0, 0))
  o1 : W.ownsRow 0 83 2 lv l.length (tents l)
  o2 : W.ownsRow 0 51 1 kv qs.length (ptrs qs)
  ks : Ks (TN W h) qs K g
  nd : ∀ a, one1 q a + ob lv a + ob kv a + g a ≤ 1
  lo : ∀ a, a < w.heap.size → one1 q a + ob lv a + ob kv a + g a = 0
section
variable {w W W' : World} {h q : Nat} {lv kv : Value} {l : List Te} {qs : List Nat} {K : List BT} {g : Nat → Nat}
theorem CN.ext (H : CN w W h q lv kv l qs K g) (hx : Ext W W') : CN w W' h q lv kv l qs K g :=
  ⟨H.hx.trans hx, (hx.block (Array.getElem?_eq_some_iff.1 H.hq).1).trans H.hq, hx.own H.o1, hx.own H.o2, H.ks.frame (f := fun _ => 0) (fun _ _ _ h1 _ => h1.ext hx) (fun _ _ => rfl), H.nd, H.lo⟩
theorem CN.bound (H : CN w W h q lv kv l qs K g) {a : Nat} (ha : W.heap.size ≤ a) : one1 q a + ob lv a + ob kv a + g a = 0 := by
  rw [one_bound H.hq ha, own_bound H.o1 ha, own_bound H.o2 ha, Ks.bound (fun p T g h1 => TN.bound h1) H.ks a ha]
theorem CN.kid (H : CN w W h q lv kv l qs K g) {T : BT} {q' : Nat} {f' : Nat → Nat} {v' : Value} {xs : List Value} {n : Nat} (hT : TN W h q' T f') (h1 : ∀ a, f' a ≤ 1) (hd : ∀ a, 0 < f' a → one1 q a + ob lv a + ob kv a + g a = 0) (h0 : ∀ a, a < w.heap.size → f' a = 0)
    (hg : W.grownBy W' kv.ownBlock) (ho : W'.ownsRow 0 51 1 v' n xs) (hn : n = (qs ++ [q']).length) (hxs : xs = ptrs (qs ++ [q'])) (hv : v'.ownBlock = kv.ownBlock ∨ ∀ k, v'.ownBlock = some k → W.heap.size ≤ k) :
    CN w (W'.setCell ⟨q, 1, none⟩ v') h q lv v' l (qs ++ [q']) (K ++ [T]) (fun a => g a + f' a) := by
  have hsz := H.hx.size
  have hql := (Array.getElem?_eq_some_iff.1 H.hq).1
  have hqk : kv.ownBlock ≠ some q := fun e => by have := H.nd q; rw [ob_some e, one_self] at this; omega
  have hv'q : v'.ownBlock ≠ some q := fun e => by
    rcases hv with h2 | h2
    · exact hqk (h2.symm.trans e)
    · have := h2 q e; omega
  have bq := (hg.block q hql (fun e0 => hqk e0.symm)).trans H.hq
  have hF : FR (fun a => one1 q a + ob kv a) W (W'.setCell ⟨q, 1, none⟩ v') := fr_step (FR.of_ext (Ext.refl W)) hg (fun k e _ h2 => by rw [ob_some e] at h2; omega) (fun _ h2 => by rw [one_self] at h2; omega) 1 _
  subst hn hxs
  refine ⟨H.hx.trans' hF (fun a ha => ?_), node_set1 bq _, hF.own H.o1 (fun k e => ?_), own_set ho hv'q 1 _, ?_, fun a => ?_, fun a ha => ?_⟩
  · have := H.lo a ha
    show one1 q a + ob kv a = 0
    omega
  · have := H.nd k
    rw [ob_some e] at this
    show one1 q k + ob kv k = 0
    omega
  · refine (H.ks.frame (f := fun a => one1 q a + ob kv a) (fun _ _ _ h2 h3 => h2.frame hF h3) (fun a ha => ?_)).app (show Ks (TN (W'.setCell ⟨q, 1, none⟩ v') h) [q'] [T] f' from ⟨f', fun _ => 0, hT.frame hF (fun a ha => ?_), fun _ => rfl, fun a => by show f' a = f' a + 0; omega⟩)
    · have := H.nd a
      show one1 q a + ob kv a = 0
      omega
    · have := hd a ha
      show one1 q a + ob kv a = 0
      omega
  · have hn := H.nd a
    have hf := h1 a
    have hf2 := hd a
    show one1 q a + ob lv a + ob v' a + (g a + f' a) ≤ 1
    rcases hv with h2 | h2
    · rw [ob_same h2]
      rcases Nat.eq_zero_or_pos (f' a) with h3 | h3
      · omega
      · have := hf2 h3; omega
    · by_cases hs : a < W.heap.size
      · rw [show ob v' a = 0 from if_neg (fun e => by have := h2 a e; omega)]
        rcases Nat.eq_zero_or_pos (f' a) with h3 | h3
        · omega
        · have := hf2 h3; omega
      · have h4 := H.bound (Nat.le_of_not_lt hs)
        rw [show f' a = 0 from TN.bound hT a (Nat.le_of_not_lt hs)]
        have : ob v' a ≤ 1 := by unfold ob; split <;> omega
        omega
  · have h3 := H.lo a ha
    have h4 := h0 a ha
    show one1 q a + ob lv a + ob v' a + (g a + f' a) = 0
    rcases hv with h2 | h2
    · rw [ob_same h2]; omega
    · rw [show ob v' a = 0 from if_neg (fun e => by have := h2 a e; omega)]; omega
end
def GiveC (h : Nat) (T : BT) (w : World) (e : Ending) (w' : World) : Prop := ∃ q f', e = .returned (.pointer (some ⟨q, 0, none⟩)) ∧ TN w' h q T f' ∧ Ext w w' ∧ (∀ a, f' a ≤ 1) ∧ ∀ a, a < w.heap.size → f' a = 0
def newN (w : World) (k : Nat) : World := w.alloc (.cells (madeCells #[.string ⟨#[]⟩, .int .i64 0] (k * 2)) 83)
theorem mkN (n : Nat) (hn : n ≤ 1000000) (wx : World) : (Instr.makeSlice 52 (.int .i64 (n : Int)) (.int .i64 (n : Int))).run Tryz.prog wx = .ok (.slice (some ⟨wx.heap.size, 0, none⟩) n n) (newN wx n) := by
  obtain ⟨i0, hi, hz0, hz1, hz2⟩ := info_parts infoN
  have h := run_makeSlice (P := Tryz.prog) wx 52 83 i0 _ Tryz.underlying52 hi hz0 .i64 .i64 (n : Int) (n : Int) (by omega) (by omega) (by rw [hz1]; omega) (by rw [hz2]; omega) (by omega)
  rw [hz1] at h
  simp only [Int.toNat_natCast] at h
  exact h
theorem cp_N (w : World) (g n c : Nat) (A : Option Addr) (l : List Te) (cur : List Value) (hg : w.heap[g]? = some (.cells cur.toArray 83 (0, 0))) (hc : cur.length = n * 2) (hr : RdN w A n c l) :
    ∃ w', (Builtin.copy_ #[52, 52] 3 #[.slice (some ⟨g, 0, none⟩) n n, .slice A n c]).run Tryz.prog w = .ok (.int .i64 n) w' ∧ w'.heap[g]? = some (.cells (tents l).toArray 83 (0, 0)) ∧ w.grownBy w' (some g) := by
  have hlen : (tents l).length = n * 2 := hr.1
  rcases A with _ | ad
  · have hn : n = 0 := by
      rcases Nat.eq_zero_or_pos n with h0 | h0
      · exact h0
      · obtain ⟨ad, h, _⟩ := hr.2.2.2 h0
        cases h
    subst hn
    have e1 : cur = [] := List.eq_nil_of_length_eq_zero (by simpa using hc)
    have e2 : tents l = [] := List.eq_nil_of_length_eq_zero (by simpa using hlen)
    subst e1
    rw [e2]
    refine ⟨w, ?_, hg, World.grownBy.refl w _⟩
    obtain ⟨i0, hi0, hz0, hz1, hz2⟩ := info_parts infoN
    simp [Builtin.copy_, run_underlying Tryz.underlying52, Builtin.lenOf, Builtin.firstCells, sizeOf, typeInfo, hi0, storeCells, goInt, Result.andThen]
  · have hcells : ∀ j u, (tents l)[j]? = some u → w.cell? (ad.add j) = some u := fun j u hu => by
      rcases Nat.eq_zero_or_pos n with h0 | h0
      · have e2 : tents l = [] := List.eq_nil_of_length_eq_zero (by rw [hlen, h0])
        rw [e2] at hu
        simp at hu
      · obtain ⟨ad', e', hc'⟩ := hr.2.2.2 h0
        injection e' with e'
        subst e'
        exact hc' j u hu
    obtain ⟨w', h1, h2, h3⟩ := ex_copy_k (P := Tryz.prog) w 52 52 3 83 2 g 0 n n ad n c cur _ (tents l) Tryz.underlying52 (by kernel_rfl) hg n (Nat.min_self n) hlen hcells (by rw [hlen, hc]; omega) (tents_one _)
    refine ⟨w', h1, ?_, h3.out⟩
    have h4 : splice cur 0 (tents l) = tents l := by
      unfold splice
      rw [List.take_zero, List.nil_append, List.drop_eq_nil_of_le (by rw [hlen, hc]; omega), List.append_nil]
    rw [h4] at h2
    exact h2.out
theorem copied_step (h : Nat) (ks : List BT) (ih : ∀ (q : Nat) (K : BT) (fk : Nat → Nat) (w' : World), K ∈ ks → TN w' h q K fk → Calls Tryz.prog 44 #[.pointer (some ⟨q, 0, none⟩)] w' (GiveC h K w'))
    (p : Nat) (l : List Te) (ps : List Nat) (lv kv : Value) (gk : Nat → Nat) (w : World) (e1 : w.heap[p]? = some (.cells #[lv, kv] 55 (0, 0))) (e2 : w.ownsRow 0 83 2 lv l.length (tents l)) (e3 : w.ownsRow 0 51 1 kv ps.length (ptrs ps)) (e5 : Ks (TN w h) ps ks gk) (hll : l.length ≤ 1000000) (hkl : ps.length ≤ 1000) :
    Calls Tryz.prog 44 #[.pointer (some ⟨p, 0, none⟩)] w fun e w' => ∃ q lv' kv' qs g', e = .returned (.pointer (some ⟨q, 0, none⟩)) ∧ CN w w' h q lv' kv' l qs ks g' := by
  obtain ⟨A, c, rfl, hr⟩ := own_rd e2
  obtain ⟨kA, kc, rfl, hkr⟩ := own_rd e3
  have hmx := Rd.max hr
  have hkmx := Rd.max hkr
  have hpk := hid e5.len
  have hcell : Hid (∀ w', Ext w w' → w'.cell? ⟨p, 0, none⟩ = some (.slice A l.length c) ∧ w'.cell? ⟨p, 1, none⟩ = some (.slice kA ps.length kc) ∧ RdN w' A l.length c l ∧ Rd w' 1 kA ps.length kc (ptrs ps) ∧ p < w'.heap.size) := fun w' hx =>
    ⟨hx.cell (node_c0 e1), hx.cell (node_c1 e1), Rd.ext hr hx, Rd.ext hkr hx, Nat.lt_of_lt_of_le (Array.getElem?_eq_some_iff.1 e1).1 hx.size⟩
  have hkid : Hid (∀ (i : Nat) (w' : World), i < ps.length → Ext w w' → ∃ q K, ps[i]? = some q ∧ ks[i]? = some K ∧ Calls Tryz.prog 44 #[.pointer (some ⟨q, 0, none⟩)] w' (GiveC h K w')) := fun i w' hi hx => by
    have hlt : i < ks.length := by have := hpk.out; omega
    obtain ⟨q, g0, g1, g2, hq, hTK, -, -, -⟩ := e5.cut (List.getElem?_eq_getElem hlt)
    exact ⟨q, ks[i], hq, List.getElem?_eq_getElem hlt, ih q ks[i] g1 w' (List.getElem_mem hlt) (hTK.ext hx)⟩
  have mk := mkN l.length hll
  have hx1 := hid ((Ext.refl w).alloc_right (.cells (madeCells #[.string ⟨#[]⟩, .int .i64 0] (l.length * 2)) 83))
  have hg1 : (newN w l.length).heap[w.heap.size]? = _ := heap_alloc_new w (.cells (madeCells #[.string ⟨#[]⟩, .int .i64 0] (l.length * 2)) 83)
  have hs1 : (newN w l.length).heap.size = w.heap.size + 1 := World.size_alloc _ _
  replace hx1 : Hid (Ext w (newN w l.length)) := hx1
  have hmc : Hid ((madeCells #[.string ⟨#[]⟩, .int .i64 0] (l.length * 2)).toList.length = l.length * 2) := by unfold Hid; rw [Array.length_toList, size_madeCells]
  rw [← Array.toArray_toList (xs := madeCells #[.string ⟨#[]⟩, .int .i64 0] (l.length * 2))] at hg1
  generalize (madeCells #[.string ⟨#[]⟩, .int .i64 0] (l.length * 2)).toList = mc at *
  obtain ⟨z0, -, -, -, lp⟩ := hcell.out w (Ext.refl w)
  clear e1 e2 e3 e5 hr hkr ih
  go_enter Tryz.func44, Tryz.ntmps44
  go_upto_region 2 with fail
  clear mk z0 lp
  obtain ⟨g, hg⟩ : ∃ g, g = w.heap.size := ⟨_, rfl⟩
  rw [← hg] at hg1 hs1
  simp only [← hg]
  replace hg := hid hg
  generalize newN w l.length = w1 at *
  have hx2 := (Ext.refl w1).alloc_right (.cells #[.slice (some ⟨g, 0, none⟩) l.length l.length, .slice none 0 0] 55)
  have hq1 := heap_alloc_new w1 (.cells #[.slice (some ⟨g, 0, none⟩) l.length l.length, .slice none 0 0] 55)
  rw [hs1] at hq1
  try simp only [hs1]
  obtain ⟨q, hq⟩ : ∃ q, q = g + 1 := ⟨_, rfl⟩
  rw [← hq] at hq1
  simp only [← hq]
  replace hg1 := (hx2.block (Array.getElem?_eq_some_iff.1 hg1).1).trans hg1
  replace hx1 := hid (hx1.out.trans hx2)
  replace hq := hid hq
  clear hs1 hx2
  generalize w1.alloc (.cells #[.slice (some ⟨g, 0, none⟩) l.length l.length, .slice none 0 0] 55) = w2 at *
  have hgd : w2.drew.heap[g]? = _ := hg1
  have hqd : w2.drew.heap[q]? = _ := hq1
  replace hx1 := hid (hx1.out.drew_right)
  obtain ⟨z0, z1, hrd, -, lp⟩ := hcell.out _ hx1.out
  obtain ⟨w3, hcp, hg3, hgr⟩ := cp_N w2.drew g l.length c A l mc hgd hmc.out hrd
  have y0 := node_c0 hqd
  have lq := (Array.getElem?_eq_some_iff.1 hqd).1
  have hq3 := (hgr.block q lq (fun e => by injection e with e; have := hq.out; omega)).trans hqd
  have hxn : Hid (Ext w w3) := hx1.out.trans' (FR.of_grown (f := one1 g) hgr (fun k e => by injection e with e; rw [e, one_self]; omega)) (fun a ha => if_neg (fun e => by have := hg.out; omega))
  have hC0 : Hid (CN w w3 h q (.slice (some ⟨g, 0, none⟩) l.length l.length) (.slice none 0 0) l [] (ks.take 0) (fun _ => 0)) := by
    have hnil : ∀ a, ob (.slice none 0 0) a = 0 := fun a => if_neg (by intro e; cases e)
    have hob : ∀ a, ob (.slice (some ⟨g, 0, none⟩) l.length l.length) a = one1 g a := fun a => by
      unfold ob one1
      by_cases e : a = g
      · rw [if_pos e, if_pos (by rw [e]; rfl)]
      · rw [if_neg e, if_neg (fun e' => e (by injection e' with e'; exact e'.symm))]
    refine ⟨hxn.out, hq3, ?_, World.ownsRow_nil _ _ _ _, fun _ => rfl, fun a => ?_, fun a ha => ?_⟩
    · have hlen : (tents l).length = l.length * 2 := hrd.1
      exact ⟨hlen, .inr ⟨g, l.length, (tents l).toArray, rfl, Nat.zero_le _, hg3, Nat.le_refl _, by unfold maxLen; omega, by simpa using hlen, by rw [← hlen]; simp⟩⟩
    · rw [hob a, hnil a]
      have := hq.out
      unfold one1
      split <;> split <;> omega
    · rw [hob a, hnil a, show one1 q a = 0 from if_neg (by have := hq.out; have := hg.out; omega), show one1 g a = 0 from if_neg (by have := hg.out; omega)]
  clear hg1 hq1 hgd hqd hrd hgr hg3 hx1 hmc
  go_region
  clear z0 z1 lp y0 lq hq3 hcp
  obtain ⟨-, z1, -, -, lp⟩ := hcell.out _ hxn.out
  go_wp2_with fail
  clear z1 lp
  go_loopw [28] (fun i wr => ∃ (k : Nat) (kv' : Value) (qs : List Nat) (g' : Nat → Nat), k ≤ ps.length ∧ i = .int .i64 k ∧ Hid (qs.length = k) ∧ Hid (CN w wr h q (.slice (some ⟨g, 0, none⟩) l.length l.length) kv' l qs (ks.take k) g')) (fun i _ => ps.length - (intOf i).toNat)
  case atStart => exact ⟨0, _, [], _, Nat.zero_le _, rfl, rfl, hC0⟩
  case round =>
    obtain ⟨k, kv', qs, g', hk, rfl, hqs, hC⟩ := hrel
    clear hC0 hxn
    obtain ⟨-, -, -, hkr, lp⟩ := hcell.out _ hC.out.hx
    by_cases hlt : k < ps.length
    · have hki : (k : Int) < (ps.length : Int) := by omega
      obtain ⟨kad, rfl, -⟩ := hkr.2.2.2 (by omega)
      obtain ⟨u, T0, hu, hT0, -⟩ := hkid.out k _ hlt hC.out.hx
      have hcall := hid (fun w' (hx : Ext w w') => (by
        obtain ⟨u', K', hu', hK', h3⟩ := hkid.out k w' hlt hx
        rw [hu] at hu'
        rw [hT0] at hK'
        obtain rfl := Option.some.inj hu'
        obtain rfl := Option.some.inj hK'
        exact h3 : Calls Tryz.prog 44 #[.pointer (some ⟨u, 0, none⟩)] w' (GiveC h T0 w')))
      have cq := rd_ptr hkr hu
      have hKt : Hid (ks.take (k + 1) = ks.take k ++ [T0]) := by
        unfold Hid
        obtain ⟨hl2, e⟩ := List.getElem?_eq_some_iff.1 hT0
        rw [List.take_succ_eq_append_getElem hl2, e]
      clear hkr hu hT0 lp
      obtain ⟨Ak, ck, rfl, -⟩ := own_form hC.out.o2
      go_upto_region 6 with fail
      have hC1 := hid (hC.out.ext (Ext.refl wr).drew_right)
      have I0 : (fun w' : World => w'.cell? ⟨q, 1, none⟩ = some (.slice Ak qs.length ck)) wr.drew := node_c1 hC1.out.hq
      refine region_J (fun w' : World => w'.cell? ⟨q, 1, none⟩ = some (.slice Ak qs.length ck)) 11 (by kernel_rfl) ?_
      clear hC cq
      generalize wr.drew = W at *
      refine JT 0 (v := ?vc0) I0 ?yc0 ?rc0
      case yc0 => (intro w h; have := h; go_simp; with_reducible rfl)
      simp only [Act.put, lyA, lyB, lyC, lyD, lyE, lyF]
      refine JT 1 (v := ?vc1) I0 ?yc1 ?rc1
      case yc1 => (intro w h; have := h; go_simp; with_reducible rfl)
      simp only [Act.put, lyA, lyB, lyC, lyD, lyE, lyF]
      refine JT 2 (v := ?vc2) I0 ?yc2 ?rc2
      case yc2 => (intro w h; have := h; go_simp; with_reducible rfl)
      simp only [Act.put, lyA, lyB, lyC, lyD, lyE, lyF]
      refine JT 3 (v := ?vc3) I0 ?yc3 ?rc3
      case yc3 => (intro w h; have := h; go_simp; with_reducible rfl)
      simp only [Act.put, lyA, lyB, lyC, lyD, lyE, lyF]
      refine JT 4 (v := ?vc4) I0 ?yc4 ?rc4
      case yc4 => (intro w h; have := h; go_simp; with_reducible rfl)
      simp only [Act.put, lyA, lyB, lyC, lyD, lyE, lyF]
      refine JT 5 (v := ?vc5) I0 ?yc5 ?rc5
      case yc5 => (intro w h; have := h; go_simp; with_reducible rfl)
      simp only [Act.put, lyA, lyB, lyC, lyD, lyE, lyF]
      refine J_one 6 rfl (by kernel_rfl) (fun K hK => ?_)
      go_simp
      refine (hcall.out W hC1.out.hx).mono ?_
      rintro e W2 ⟨u', f', rfl, hT, hx2, hf1, hf0⟩
      have hd := hid (fun a ha => hC1.out.bound (Nat.le_of_not_lt (fun h9 => by have := hf0 a h9; omega)) : ∀ a, 0 < f' a → _)
      have h0 := hid (fun a ha => hf0 a (Nat.lt_of_lt_of_le ha hC1.out.hx.size) : ∀ a, a < w.heap.size → f' a = 0)
      have hC2 := hid (hC1.out.ext hx2)
      have I2 : (fun w' : World => w'.cell? ⟨q, 1, none⟩ = some (.slice Ak qs.length ck)) W2 := node_c1 hC2.out.hq
      replace hT := hid hT
      replace hf1 := hid hf1
      clear hf0 hx2
      refine hK _ _ ⟨fun _ => I2, ?_⟩
      clear hK K
      try simp only [Act.put, lyA, lyB, lyC, lyD, lyE, lyF]
      refine J_one 7 rfl (by kernel_rfl) (fun K hK => ?_)
      go_simp
      have hxa := (Ext.refl W2).alloc_right (.cells #[.pointer (some ⟨u', 0, none⟩)] 51)
      have hC3 := hid (hC2.out.ext hxa)
      replace hT := hid (hT.out.ext hxa)
      have hva := hid (heap_alloc_new W2 (.cells #[.pointer (some ⟨u', 0, none⟩)] 51))
      have I3 : (fun w' : World => w'.cell? ⟨q, 1, none⟩ = some (.slice Ak qs.length ck)) (W2.alloc (.cells #[.pointer (some ⟨u', 0, none⟩)] 51)) := node_c1 hC3.out.hq
      clear hxa hC2 hC1
      generalize W2.heap.size = va at *
      generalize W2.alloc (.cells #[.pointer (some ⟨u', 0, none⟩)] 51) = W3 at *
      obtain ⟨v', W4, happ, ho', hrw⟩ := appK W3 53 _ qs.length (ptrs qs) hC3.out.o2 (some ⟨va, 0, none⟩) 1 1 [.pointer (some ⟨u', 0, none⟩)] (rd_new hva.out) (ptrs_one [u']) (by have := hqs.out; omega)
      have hC4 := hid (fun v (e : v = v') => (by rw [e]; exact hC3.out.kid hT.out hf1.out hd.out h0.out hrw.1 ho' (by simp) (by rw [ptrs_append]; rfl) hrw.2 : CN w (W4.setCell ⟨q, 1, none⟩ v) h q (.slice (some ⟨g, 0, none⟩) l.length l.length) v l (qs ++ [u']) (ks.take k ++ [T0]) (fun a => g' a + f' a)))
      have hbq := (hrw.1.block q (Array.getElem?_eq_some_iff.1 hC3.out.hq).1 (fun e0 => by have := hC3.out.nd q; rw [ob_some e0.symm, one_self] at this; omega)).trans hC3.out.hq
      have hr2 := node_c1 hbq
      have hf2 := Lib.frozen_of_heap hbq 1
      have I4 : (fun w' : World => w'.cell? ⟨q, 1, none⟩ = some (.slice Ak qs.length ck)) W4 := hr2
      obtain ⟨Aw, cw, rfl, -⟩ := own_form ho'
      replace happ := hid happ
      clear ho' hrw hC3 hva hbq hT hf1 hd h0
      refine hK _ _ ⟨fun _ => I3, ?_⟩
      clear hK K
      try simp only [Act.put, lyA, lyB, lyC, lyD, lyE, lyF]
      refine J_one 8 rfl (by kernel_rfl) (fun K hK => ?_)
      refine step_run rfl _ (ex_append _ _ _ _ rfl _ _ (by simp [Act.eval, Act.put]) (by simp [Act.eval, Act.put]) _ happ.out) ?_
      refine hK _ _ ⟨fun _ => I4, ?_⟩
      clear hK K
      try simp only [Act.put, lyA, lyB, lyC, lyD, lyE, lyF]
      refine J_one 9 rfl (by kernel_rfl) (fun K hK => ?_)
      go_simp
      refine hK _ _ ⟨fun _ => I4, ?_⟩
      clear hK K
      try simp only [Act.put, lyD, lyE, lyF]
      refine J_one 10 rfl (by kernel_rfl) (fun K hK => ?_)
      go_simp
      refine hK _ _ ⟨fun _ => I4, ?_⟩
      clear hK K
      try simp only [Act.put, lyD, lyE, lyF]
      refine J_one 11 rfl (by kernel_rfl) (fun K hK => ?_)
      go_simp
      refine hK _ _ ⟨fun h => absurd rfl h, ?_⟩
      clear hK K
      try simp only [Act.put, lyD, lyE, lyF]
      refine J_done (by kernel_rfl) (OnlyOn.normal ?_)
      clear hr2 hf2 I2 I3 I4 I0
      replace hC4 := hid (hC4.out _ rfl)
      rw [← hKt.out] at hC4
      go_wp2_with fail
      go_roundw
      case rel => exact ⟨k + 1, _, qs ++ [u'], _, by omega, by go_num, by unfold Hid; rw [List.length_append, hqs.out]; rfl, hC4⟩
      case measure => simp [intOf]; omega
    · obtain rfl : k = ps.length := by omega
      have e8 : ks.take ps.length = ks := List.take_of_length_le (by have := hpk.out; omega)
      replace hC := hC.out
      rw [e8] at hC
      go_wp2_with fail
      go_ret
      exact ⟨q, _, kv', qs, g', rfl, hC⟩
end Go.Proofs.YtpijfiaecicpfaaGreat
