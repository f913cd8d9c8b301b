/-
  The program's Read.
-/
import Derived.Test.YtpijfiaecicpfaaCf
import Derived.Test.YtpijfiaecicpfaaCc
namespace Go.Proofs.Ytpijfiaecicpfaa
open Go.RowKit Go.Shelf
set_option linter.unusedVariables false
set_option linter.unusedSimpArgs false
/-! ### Plainly -/
def itN (g : Bool) : Nat → List Nx × St → List Nx × St
  | 0, p => p
  | n + 1, p => if (itN g n p).2.ok = false then itN g n p else ((itN g n p).1 ++ [(nodeF g (itN g n p).2).1], (nodeF g (itN g n p).2).2)
def readF (g : Bool) (l : List Int) : List Nx × St := itN g (twoV ⟨l, true⟩).toNat ([], (tk 2 ⟨l, true⟩).2)
theorem tk_ok {n : Nat} {s : St} (h : s.ok = false) : (tk n s).2.ok = false := by unfold tk; split <;> simp [h]
theorem k_ok (p : Nx × St) (h : p.2.ok = false) : (kStep p).2.ok = false := tk_ok (tk_ok (tk_ok h))
theorem d_ok (p : Nx × St) (h : p.2.ok = false) : (dStep p).2.ok = false := tk_ok h
theorem it_stay {F : Nx × St → Nx × St} {p : Nx × St} (h : p.2.ok = false) : ∀ n, itG true F n p = p
  | 0 => rfl
  | n + 1 => by rw [itG, it_stay h n, stepG, h]; rfl
theorem it_no {F : Nx × St → Nx × St} (hF : ∀ p, p.2.ok = false → (F p).2.ok = false) {p : Nx × St} (h : p.2.ok = false) : ∀ n, (itG false F n p).2.ok = false
  | 0 => h
  | n + 1 => hF _ (it_no hF h n)
theorem it_two {F : Nx × St → Nx × St} (hF : ∀ p, p.2.ok = false → (F p).2.ok = false) (p : Nx × St) : ∀ n, (itG false F n p).2.ok = (itG true F n p).2.ok ∧ ((itG true F n p).2.ok = true → itG false F n p = itG true F n p)
  | 0 => ⟨rfl, fun _ => rfl⟩
  | n + 1 => by
    obtain ⟨h1, h2⟩ := it_two hF p n
    show (F (itG false F n p)).2.ok = (stepG true F (itG true F n p)).2.ok ∧ ((stepG true F (itG true F n p)).2.ok = true → F (itG false F n p) = stepG true F (itG true F n p))
    cases hb : (itG true F n p).2.ok with
    | true =>
      have e : stepG true F (itG true F n p) = F (itG true F n p) := by unfold stepG; rw [hb]; rfl
      rw [e, h2 hb]
      exact ⟨rfl, fun _ => rfl⟩
    | false =>
      have e : stepG true F (itG true F n p) = itG true F n p := by unfold stepG; rw [hb]; rfl
      rw [e, hb, hF _ (by rw [h1, hb])]
      exact ⟨rfl, fun h => by cases h⟩
theorem node_two (s : St) : (nodeF false s).2.ok = (nodeF true s).2.ok ∧ ((nodeF true s).2.ok = true → nodeF false s = nodeF true s) := by
  unfold nodeF
  obtain ⟨h1, h2⟩ := it_two k_ok (node0 s) (oneV s).toNat
  cases hb : (itG true kStep (oneV s).toNat (node0 s)).2.ok with
  | true => rw [h2 hb]; exact it_two d_ok _ _
  | false =>
    rw [it_stay hb, it_no d_ok (by rw [h1, hb]), hb]
    exact ⟨rfl, fun h => by cases h⟩
theorem itN_two (p : List Nx × St) : ∀ n, (itN false n p).2.ok = (itN true n p).2.ok ∧ ((itN true n p).2.ok = true → itN false n p = itN true n p)
  | 0 => ⟨rfl, fun _ => rfl⟩
  | n + 1 => by
    obtain ⟨h1, h2⟩ := itN_two p n
    cases hb : (itN true n p).2.ok with
    | true =>
      have e := h2 hb
      obtain ⟨g1, g2⟩ := node_two (itN true n p).2
      unfold itN
      rw [e, hb, if_neg (by decide), if_neg (by decide)]
      refine ⟨g1, fun h => ?_⟩
      rw [g2 h]
    | false =>
      unfold itN
      rw [if_pos (by rw [h1, hb]), if_pos hb]
      exact ⟨h1, fun h => by rw [hb] at h; cases h⟩
theorem read_two (l : List Int) : (readF false l).2.ok = (readF true l).2.ok ∧ ((readF true l).2.ok = true → readF false l = readF true l) := itN_two _ _
theorem node_isB {g : Bool} {s : St} (h : isB s.l) : isB (nodeF g s).2.l := it_isB d_isB (it_isB k_isB (tk_isB (tk_isB h).2).2 _) _
theorem itN_isB {g : Bool} {p : List Nx × St} (h : isB p.2.l) : ∀ n, isB (itN g n p).2.l
  | 0 => h
  | n + 1 => by
    unfold itN
    split
    · exact itN_isB h n
    · exact node_isB (itN_isB h n)
theorem itN_len {g : Bool} {p : List Nx × St} : ∀ n, (itN g n p).1.length ≤ p.1.length + n
  | 0 => Nat.le_refl _
  | n + 1 => by
    have := itN_len (g := g) (p := p) n
    unfold itN
    split
    · omega
    · simp; omega
theorem itN_stay {g : Bool} {p : List Nx × St} {n : Nat} (h : (itN g n p).2.ok = false) : ∀ m, itN g (n + m) p = itN g n p
  | 0 => rfl
  | m + 1 => by
    have ih := itN_stay h m
    rw [← Nat.add_assoc, itN, ih, if_pos h]
/-- What both make of bytes. -/
noncomputable def rdX (l : List Int) : List Nx := if (readF true l).2.ok = true ∧ (readF true l).2.l = [] ∧ wrongX (readF true l).1 = 0 then (readF true l).1 else []
noncomputable def rdE (l : List Int) : Int := if (readF true l).2.ok = true ∧ (readF true l).2.l = [] ∧ wrongX (readF true l).1 = 0 then 0 else 11
theorem rd_of {g : Bool} (l : List Int) : (((readF g l).2.ok = true ∧ (readF g l).2.l = [] ∧ wrongX (readF g l).1 = 0) ∧ rdX l = (readF g l).1 ∧ rdE l = 0) ∨ (¬ ((readF g l).2.ok = true ∧ (readF g l).2.l = [] ∧ wrongX (readF g l).1 = 0) ∧ rdX l = [] ∧ rdE l = 11) := by
  obtain ⟨h1, h2⟩ := read_two l
  have key : ((readF g l).2.ok = true ∧ (readF g l).2.l = [] ∧ wrongX (readF g l).1 = 0) ↔ ((readF true l).2.ok = true ∧ (readF true l).2.l = [] ∧ wrongX (readF true l).1 = 0) := by
    cases g with
    | true => exact Iff.rfl
    | false =>
      cases hb : (readF true l).2.ok with
      | true => rw [h2 hb, hb]
      | false => rw [h1, hb]; constructor <;> (rintro ⟨h, _⟩; cases h)
  by_cases c : (readF true l).2.ok = true ∧ (readF true l).2.l = [] ∧ wrongX (readF true l).1 = 0
  · refine .inl ⟨key.2 c, ?_, if_pos c⟩
    unfold rdX
    rw [if_pos c]
    cases g with
    | true => rfl
    | false => rw [h2 c.1]
  · exact .inr ⟨fun h => c (key.1 h), if_neg c, if_neg c⟩
/-! ### In memory -/
/-- An index that is being read. -/
structure RDx (w1 w : World) (r y : Nat) (v : Value) (xs : List Nx) (vs : List V3) (g : Nat → Nat) : Prop where
  hx : w.heap[y]? = some (.cells #[v] 37 (0, 0))
  own : w.ownsRow w1.heap.size 69 3 v xs.length (rowsV vs)
  nl : NL w w1.heap.size vs xs g
  nd : ∀ a, one1 y a + one1 r a + ob v a + g a ≤ 1
  lo : ∀ a, a < w1.heap.size → g a = 0
  fr : FR (fun a => one1 r a + one1 y a) w1 w
  rl : r < w1.heap.size
  yl : y < w1.heap.size
theorem ix_set {w : World} {y : Nat} {a : Value} {t : TypeId} (h : w.heap[y]? = some (.cells #[a] t (0, 0))) (u : Value) : (w.setCell ⟨y, 0, none⟩ u).heap[y]? = some (.cells #[u] t (0, 0)) := by
  simp [World.setCell, Array.getElem?_modify, h]
section
variable {w1 w w' : World} {r y : Nat} {v : Value} {xs : List Nx} {vs : List V3} {g : Nat → Nat}
theorem RDx.up (h : RDx w1 w r y v xs vs g) (hF : FR (one1 r) w w') : RDx w1 w' r y v xs vs g := by
  have hry : ∀ a, 0 < one1 y a + ob v a + g a → one1 r a = 0 := fun a ha => by have := h.nd a; omega
  exact ⟨(hF.2.2.2.2 y (Array.getElem?_eq_some_iff.1 h.hx).1 (hry y (by rw [one_self]; omega))).trans h.hx, hF.own h.own (fun k e => hry k (by rw [ob_some e]; omega)), h.nl.frame hF (fun a ha => hry a (by omega)), h.nd, h.lo, h.fr.trans hF (fun k _ h0 => by have h0' : one1 r k + one1 y k = 0 := h0; omega), h.rl, h.yl⟩
theorem RDx.add (h : RDx w1 w r y v xs vs g) {wa w2 w3 : World} {u : V3} {x : Nx} {gu : Nat → Nat} {v' : Value} (hF : FR (one1 r) w wa) (hu : NR wa w.heap.size u x gu) (hd : ∀ a, gu a ≤ 1) (hx2 : Ext wa w2) (hg : w2.grownBy w3 v.ownBlock) (ho : w3.ownsRow w1.heap.size 69 3 v' (xs.length + 1) (rowsV vs ++ [u.k, u.r, u.d])) (hl : v'.ownBlock = v.ownBlock ∨ ∀ k, v'.ownBlock = some k → w2.heap.size ≤ k) :
    RDx w1 (w3.setCell ⟨y, 0, none⟩ v') r y v' (xs ++ [x]) (vs ++ [u]) (fun a => g a + gu a) ∧ FR (fun a => ob v a + one1 y a) wa (w3.setCell ⟨y, 0, none⟩ v') ∧ w3.heap[y]? = some (.cells #[v] 37 (0, 0)) := by
  have H1 := h.up hF
  have H2 := H1.up (FR.of_ext (f := one1 r) hx2)
  have hny := h.nd y
  rw [one_self] at hny
  have hsz := h.fr.2.2.2.1
  have hsa := hF.2.2.2.1
  have hs2 := hx2.size
  have hyl := h.yl
  have hrl := h.rl
  have hlow : ∀ a, a < w.heap.size → gu a = 0 := fun a ha => by
    obtain ⟨h1, h2, h3, h4⟩ := hu
    rw [h4 a, show ob u.k a = 0 from if_neg (fun e => by have := own_freshB h1 _ e; omega), show ob u.r a = 0 from if_neg (fun e => by have := own_freshB h2 _ e; omega), show ob u.d a = 0 from if_neg (fun e => by have := own_freshB h3 _ e; omega)]
  have hup : ∀ a, wa.heap.size ≤ a → gu a = 0 := hu.bound
  have hvup : ∀ a, w.heap.size ≤ a → ob v a = 0 ∧ g a = 0 ∧ one1 y a = 0 ∧ one1 r a = 0 := fun a ha => ⟨own_bound h.own ha, h.nl.bound a ha, if_neg (by omega), if_neg (by omega)⟩
  have hk'y : ob v' y = 0 := by
    rcases hl with e | e
    · rw [ob_same e]; omega
    · exact if_neg (fun e2 => by have := e y e2; omega)
  have h3 : w3.heap[y]? = some (.cells #[v] 37 (0, 0)) := (hg.block y (Array.getElem?_eq_some_iff.1 H2.hx).1 (fun e => by rw [ob_some e.symm] at hny; omega)).trans H2.hx
  have hF2 : FR (fun a => ob v a + one1 y a) wa (w3.setCell ⟨y, 0, none⟩ v') := ((FR.of_ext hx2).trans ((FR.of_grown hg (f := ob v) (fun k e => by rw [ob_some (by first | exact e | exact e.symm)]; exact Nat.one_pos)).mono (f' := fun a => ob v a + one1 y a) (fun k _ h0 => by show ob v k = 0; omega)) (fun k _ h0 => h0)).trans (fr_set (b := y)) (fun k _ h0 => by show one1 y k = 0; omega)
  refine ⟨⟨ix_set h3 v', ?_, ?_, fun a => ?_, fun a ha => ?_, ?_, hrl, hyl⟩, hF2, h3⟩
  · rw [List.length_append, rowsV_app]
    exact own_set ho (ob_zero hk'y) 0 v'
  · refine (H1.nl.frame hF2 (fun a ha => ?_)).app (NL.one ?_)
    · have := h.nd a
      show ob v a + one1 y a = 0
      omega
    · have hu2 := hu.frame hF2 (fun a ha => by
        have h9 : w.heap.size ≤ a := by
          rcases Nat.lt_or_ge a w.heap.size with h9 | h9
          · rw [hlow a h9] at ha; omega
          · exact h9
        have := hvup a h9
        show ob v a + one1 y a = 0
        omega)
      exact ⟨own_baseK hu2.1 hsz, own_baseK hu2.2.1 hsz, own_baseK hu2.2.2.1 hsz, hu2.2.2.2⟩
  · show one1 y a + one1 r a + ob v' a + (g a + gu a) ≤ 1
    have hn := h.nd a
    have hd1 := hd a
    rcases Nat.lt_or_ge a w.heap.size with h9 | h9
    · rw [hlow a h9]
      rcases hl with e | e
      · rw [ob_same e]; omega
      · rw [show ob v' a = 0 from if_neg (fun e2 => by have := e a e2; omega)]; omega
    · have := hvup a h9
      rcases hl with e | e
      · rw [ob_same e]; omega
      · by_cases e2 : v'.ownBlock = some a
        · have := hup a (by have := e a e2; omega)
          have : ob v' a ≤ 1 := by unfold ob; split <;> omega
          omega
        · rw [show ob v' a = 0 from if_neg e2]; omega
  · show g a + gu a = 0
    have := h.lo a ha
    have := hlow a (by omega)
    omega
  · refine (h.fr.trans hF (fun k _ h0 => by have h0' : one1 r k + one1 y k = 0 := h0; omega)).trans hF2 (fun k hk h0 => ?_)
    have h0' : one1 r k + one1 y k = 0 := h0
    have : ob v k = 0 := if_neg (fun e => by have := own_freshB h.own _ e; omega)
    show ob v k + one1 y k = 0
    omega
theorem RDx.reads (h : RDx w1 w r y v xs vs g) : ∃ A c, v = .slice A xs.length c ∧ RX w A xs.length c xs := by
  obtain ⟨A, c, rfl, hr⟩ := own_rd h.own
  exact ⟨A, c, rfl, vs, hr, h.nl.reads⟩
end
/-- It returns the index that bytes are. -/
def GiveRx (l : List Int) (w : World) (e : Ending) (w' : World) : Prop := ∃ A c, e = .returned (.tuple #[.agg #[.slice A (rdX l).length c], .int .i64 (rdE l)]) ∧ RX w' A (rdX l).length c (rdX l) ∧ Ext w w'
set_option maxRecDepth 100000 in
set_option maxHeartbeats 16000000 in
theorem Read_any (A : Option Addr) (n c : Nat) (l : List Int) (w : World) (hb : RdB w A n c l) : Calls Try.prog 19 #[.slice A n c] w (GiveRx l w) := by
  obtain ⟨iN, hi0, hi1, hi2, hi3⟩ := info_parts infoAN
  have hisB := hb.2
  have hll := hb.len
  subst hll
  have hA : ∀ ad, A = some ad → 0 < l.length → ad.block < w.heap.size := fun ad e hp => by
    obtain ⟨ad', e', hc⟩ := hb.1.2.2.2 hp
    rw [e] at e'
    injection e' with e'
    subst e'
    have := World.block_lt_of_cell? _ _ (hc 0 _ (List.getElem?_eq_getElem (by rw [bys_len]; exact hp)))
    rwa [block_add] at this
  have hr1 := two_rng (s := ⟨l, true⟩) hisB
  obtain ⟨K, hK⟩ : ∃ K : Nat, twoV ⟨l, true⟩ = (K : Int) := ⟨(twoV ⟨l, true⟩).toNat, by omega⟩
  have hKb : K ≤ 65535 := by omega
  have hRF : Hid (readF false l = itN false K ([], (tk 2 ⟨l, true⟩).2)) := by unfold Hid readF; rw [hK]; rfl
  have hrd := hid (rd_of (g := false) l)
  have hx1 := (Ext.refl w).alloc_right (.cells #[.slice none 0 0] 37)
  have hx2 := (Ext.refl (w.alloc (.cells #[.slice none 0 0] 37))).alloc_right (.cells #[.slice A l.length c, .bool false] 96)
  have hx3 := (Ext.refl ((w.alloc (.cells #[.slice none 0 0] 37)).alloc (.cells #[.slice A l.length c, .bool false] 96))).alloc_right (.cells #[.slice none 0 0] 37)
  have h1 := heap_alloc_new w (.cells #[.slice none 0 0] 37)
  have h2 := heap_alloc_new (w.alloc (.cells #[.slice none 0 0] 37)) (.cells #[.slice A l.length c, .bool false] 96)
  have h3 := heap_alloc_new ((w.alloc (.cells #[.slice none 0 0] 37)).alloc (.cells #[.slice A l.length c, .bool false] 96)) (.cells #[.slice none 0 0] 37)
  have hb3 := hb.ext (hx1.trans (hx2.trans hx3))
  replace h1 := ((hx2.trans hx3).block (Array.getElem?_eq_some_iff.1 h1).1).trans h1
  replace h2 := (hx3.block (Array.getElem?_eq_some_iff.1 h2).1).trans h2
  have hsz : (((w.alloc (.cells #[.slice none 0 0] 37)).alloc (.cells #[.slice A l.length c, .bool false] 96)).alloc (.cells #[.slice none 0 0] 37)).heap.size = w.heap.size + 3 := by simp
  rw [World.size_alloc] at h2
  rw [World.size_alloc, World.size_alloc] at h3
  replace hx1 := hid (hx1.trans (hx2.trans hx3))
  clear hx2 hx3 hb hr1
  replace hK := hid hK
  go_enter Try.func19, Try.ntmps19
  go_upto_region 3 with fail
  obtain ⟨q, hq⟩ : ∃ q, q = w.heap.size := ⟨_, rfl⟩
  obtain ⟨r, hr⟩ : ∃ r, r = q + 1 := ⟨_, rfl⟩
  obtain ⟨y, hy⟩ : ∃ y, y = q + 2 := ⟨_, rfl⟩
  rw [← hq] at h1 h2 h3 hsz hA
  simp only [← hq]
  have e11 : q + 1 + 1 = q + 2 := rfl
  try simp only [e11]
  try rw [e11] at h3
  rw [← hr] at h2
  rw [← hy] at h3
  simp only [← hr, ← hy]
  generalize ((w.alloc (.cells #[.slice none 0 0] 37)).alloc (.cells #[.slice A l.length c, .bool false] 96)).alloc (.cells #[.slice none 0 0] 37) = w1 at *
  clear e11
  have hP0 : Hid (RP y w1 r ⟨l, true⟩) := ⟨A, c, h2, hb3, fun ad e hp => by have := hA ad e hp; omega, fun ad e hp => by have := hA ad e hp; omega, by omega⟩
  have hR0 : Hid (RDx w1 w1 r y (.slice none 0 0) [] [] (fun _ => 0)) := ⟨h3, World.ownsRow_nil _ _ _ _, fun a => rfl, fun a => by
    rw [show ob (.slice none 0 0) a = 0 from if_neg (by intro e; cases e)]
    unfold one1
    split <;> split <;> omega, fun _ _ => rfl, FR.of_ext (Ext.refl _), by omega, by omega⟩
  have hqry : Hid (q < r ∧ r < y ∧ w1.heap.size = y + 1 ∧ q = w.heap.size) := by unfold Hid; omega
  replace h1 := hid h1
  have hT := hid (two_any y r ⟨l, true⟩ w1 hP0.out)
  rw [hK.out] at hT
  clear h2 h3 hb3 hA hq hr hy hsz
  go_wp2_with fail
  refine hT.out.mono ?_
  rintro e w2 ⟨rfl, hP2, hF2⟩
  replace hR0 := hid (hR0.out.up hF2)
  replace hP2 := hid hP2
  clear hT hP0 hF2
  go_wp2_with fail
  generalize hp0 : (([], (tk 2 ⟨l, true⟩).2) : List Nx × St) = p0 at *
  have hP2' : Hid (RP y w2 r p0.2) := by rw [← hp0]; exact hP2.out
  have hR0' : Hid (RDx w1 w2 r y (.slice none 0 0) p0.1 [] (fun _ => 0)) := by rw [← hp0]; exact hR0.out
  have hpl : Hid (p0.1.length = 0) := by rw [← hp0]; rfl
  clear hP2 hR0
  replace hp0 := hid hp0
  go_loopw [11] (fun i wr => ∃ (j : Nat) (v : Value) (vs : List V3) (g : Nat → Nat), j ≤ K ∧ i = .int .i64 j ∧ Hid (RDx w1 wr r y v (itN false j p0).1 vs g) ∧ Hid (RP y wr r (itN false j p0).2)) (fun i _ => K - (intOf i).toNat)
  case atStart => exact ⟨0, _, _, _, by omega, rfl, hR0', hP2'⟩
  case round =>
    clear hP2' hR0'
    obtain ⟨j, v, vs, g, hj, rfl, hR, hP⟩ := hrel
    have hlen := itN_len (g := false) (p := p0) j
    rw [hpl.out] at hlen
    by_cases hlt : j < K
    · have hji : (j : Int) < (K : Int) := by omega
      cases hok : (itN false j p0).2.ok with
      | true =>
        have hst : Hid (itN false (j + 1) p0 = ((itN false j p0).1 ++ [(nodeF false (itN false j p0).2).1], (nodeF false (itN false j p0).2).2)) := by unfold Hid; rw [itN, hok, if_neg (by decide)]
        obtain ⟨xs, hxs⟩ : ∃ xs, xs = (itN false j p0).1 := ⟨_, rfl⟩
        obtain ⟨s, hs⟩ : ∃ s, s = (itN false j p0).2 := ⟨_, rfl⟩
        rw [← hxs, ← hs] at hst
        rw [← hxs] at hR hlen
        rw [← hs] at hP hok
        obtain ⟨Av, cv, rfl, -⟩ := own_form hR.out.own
        obtain ⟨A5, c5, hr5, -, -, -, -⟩ := hP.out
        have z1 : wr.cell? ⟨r, 1, none⟩ = some (.bool false) := by rw [Lib.cell_of_heap hr5, hok]; rfl
        have lr := (Array.getElem?_eq_some_iff.1 hr5).1
        clear hxs hs hok hr5
        go_upto_region 6 with fail
        have I0 : (fun w' : World => w'.cell? ⟨y, 0, none⟩ = some (.slice Av xs.length cv)) wr.drew := by
          show wr.cell? ⟨y, 0, none⟩ = _
          rw [Lib.cell_of_heap hR.out.hx]; rfl
        refine region_J (fun w' : World => w'.cell? ⟨y, 0, none⟩ = some (.slice Av xs.length cv)) 7 (by kernel_rfl) ?_
        replace hR := hid (hR.out.up (FR.of_ext ((Ext.refl wr).drew_right)))
        replace hP := hid (hP.out.ext ((Ext.refl wr).drew_right))
        clear z1 lr
        generalize wr.drew = w9 at *
        refine J_take 0 (v := ?vt0) rfl (by kernel_rfl) (by kernel_rfl) (by kernel_rfl) (by kernel_rfl) (fun _ _ _ h => h) (Or.inl ⟨by rfl, ?yt0⟩) I0 ?rt0
        case yt0 => (intro w hSw; have := hSw; (go_simp; with_reducible rfl))
        simp only [Act.put, List.getElem_toArray, List.getElem_cons_zero, List.getElem_cons_succ, List.setIfInBounds_toArray, List.set_cons_zero, List.set_cons_succ]
        refine J_take 1 (v := ?vt1) rfl (by kernel_rfl) (by kernel_rfl) (by kernel_rfl) (by kernel_rfl) (fun _ _ _ h => h) (Or.inl ⟨by rfl, ?yt1⟩) I0 ?rt1
        case yt1 => (intro w hSw; have := hSw; (go_simp; with_reducible rfl))
        simp only [Act.put, List.getElem_toArray, List.getElem_cons_zero, List.getElem_cons_succ, List.setIfInBounds_toArray, List.set_cons_zero, List.set_cons_succ]
        refine J_take 2 (v := ?vt2) rfl (by kernel_rfl) (by kernel_rfl) (by kernel_rfl) (by kernel_rfl) (fun _ _ _ h => h) (Or.inl ⟨by rfl, ?yt2⟩) I0 ?rt2
        case yt2 => (intro w hSw; have := hSw; (go_simp; with_reducible rfl))
        simp only [Act.put, List.getElem_toArray, List.getElem_cons_zero, List.getElem_cons_succ, List.setIfInBounds_toArray, List.set_cons_zero, List.set_cons_succ]
        refine J_one 3 rfl (by kernel_rfl) (fun K hK => ?_)
        go_simp
        refine (node_any y r s w9 hP.out (by have := hR.out.fr.2.2.2.1; have := hqry.out; omega)).mono ?_
        rintro e' w10 ⟨kv, rv, dv, gu, rfl, hNR, hgu, hP10, hF10⟩
        have hR10 := hR.out.up hF10
        have I1 : (fun w' : World => w'.cell? ⟨y, 0, none⟩ = some (.slice Av xs.length cv)) w10 := by
          show w10.cell? ⟨y, 0, none⟩ = _
          rw [Lib.cell_of_heap hR10.hx]; rfl
        refine hK _ _ ⟨fun _ => I1, ?_⟩
        clear hK K I0
        try simp only [Act.put, List.getElem_toArray, List.getElem_cons_zero, List.getElem_cons_succ, List.setIfInBounds_toArray, List.set_cons_zero, List.set_cons_succ]
        have hxb := (Ext.refl w10).alloc_right (.cells #[kv, rv, dv] 69)
        have hnew := heap_alloc_new w10 (.cells #[kv, rv, dv] 69)
        have hRn : Rd (w10.alloc (.cells #[kv, rv, dv] 69)) 3 (some ⟨w10.heap.size, 0, none⟩) 1 1 [kv, rv, dv] := ⟨rfl, Nat.le_refl _, by decide, fun _ => ⟨_, rfl, fun j u hu => by
          rw [lit_add, Nat.zero_add, Lib.cell_of_heap hnew]
          simpa using hu⟩⟩
        obtain ⟨A7, c7, rfl, -⟩ := own_form hNR.1
        obtain ⟨A8, c8, rfl, -⟩ := own_form hNR.2.1
        obtain ⟨A9, c9, rfl, -⟩ := own_form hNR.2.2.1
        obtain ⟨v', w12, happ, own3, hgr, hloc⟩ := app_at _ w1.heap.size 35 35 69 iN _ 3 72 Try.underlying35 hi0 hi1 hi2 hi3 rfl (by decide) _ _ _ (hxb.own hR10.own) _ 1 1 _ hRn (by simp [Value.oneCell']) (by unfold maxLen; omega) (by omega) (Nat.le_trans hR10.fr.2.2.2.1 hxb.size)
        obtain ⟨hRs, hFs, hy12⟩ := hR.out.add hF10 hNR hgu hxb hgr own3 hloc
        have hPs := hid (hP10.fr hFs (fun a ha => by
          have h7 := own_freshB hR10.own
          have hyy := hqry.out
          show ob _ a + one1 y a = 0
          rw [show ob _ a = 0 from if_neg (fun e => by have := h7 a e; omega), show one1 y a = 0 from if_neg (by omega)]))
        replace hRs := hid hRs
        obtain ⟨Ak', ck', rfl, -⟩ := own_form own3
        have I2 : (fun w' : World => w'.cell? ⟨y, 0, none⟩ = some (.slice Av xs.length cv)) (w10.alloc (.cells #[.slice A7 (nodeF false s).1.keys.length c7, .slice A8 (nodeF false s).1.recs.length c8, .slice A9 (nodeF false s).1.kids.length c9] 69)) := hxb.cell I1
        have I3 : (fun w' : World => w'.cell? ⟨y, 0, none⟩ = some (.slice Av xs.length cv)) w12 := by
          show w12.cell? ⟨y, 0, none⟩ = _
          rw [Lib.cell_of_heap hy12]; rfl
        have z12 : w12.cell? ⟨y, 0, none⟩ = some (.slice Av xs.length cv) := I3
        have f12 := Lib.frozen_of_heap hy12 0
        have l12 := (Array.getElem?_eq_some_iff.1 hy12).1
        replace happ := hid happ
        have e9 : (itN false (j + 1) p0).1 = xs ++ [(nodeF false s).1] := by rw [hst.out]
        have e8 : (itN false (j + 1) p0).2 = (nodeF false s).2 := by rw [hst.out]
        have hNe := hRs.out
        have hPe := hPs.out
        rw [← e9] at hNe
        rw [← e8] at hPe
        replace hNe := hid hNe
        replace hPe := hid hPe
        clear e8 e9
        clear hRn own3 hgr hloc hFs hy12 hxb hnew hR10 hNR hgu hP10 hF10 hR hP hRs hPs hst
        generalize (nodeF false s).1.keys.length = n7 at *
        generalize (nodeF false s).1.recs.length = n8 at *
        generalize (nodeF false s).1.kids.length = n9 at *
        refine J_one 4 rfl (by kernel_rfl) (fun K hK => ?_)
        go_simp
        refine hK _ _ ⟨fun _ => I2, ?_⟩
        clear hK K
        try simp only [Act.put, List.getElem_toArray, List.getElem_cons_zero, List.getElem_cons_succ, List.setIfInBounds_toArray, List.set_cons_zero, List.set_cons_succ]
        generalize w10.heap.size = qb at *
        generalize w10.alloc (.cells #[.slice A7 n7 c7, .slice A8 n8 c8, .slice A9 n9 c9] 69) = w11 at *
        refine J_one 5 rfl (by kernel_rfl) (fun K hK => ?_)
        refine step_run rfl _ (ex_append _ _ _ _ rfl _ _ (by simp [Act.eval, Act.put]) (by simp [Act.eval, Act.put]) _ happ.out) ?_
        refine hK _ _ ⟨fun _ => I3, ?_⟩
        clear hK K happ I1 I2
        try simp only [Act.put, List.getElem_toArray, List.getElem_cons_zero, List.getElem_cons_succ, List.setIfInBounds_toArray, List.set_cons_zero, List.set_cons_succ]
        refine J_one 6 rfl (by kernel_rfl) (fun K hK => ?_)
        go_simp
        refine hK _ _ ⟨fun _ => I3, ?_⟩
        clear hK K
        try simp only [Act.put, List.getElem_toArray, List.getElem_cons_zero, List.getElem_cons_succ, List.setIfInBounds_toArray, List.set_cons_zero, List.set_cons_succ]
        refine J_one 7 rfl (by kernel_rfl) (fun K hK => ?_)
        go_simp
        refine hK _ _ ⟨fun h => absurd rfl h, ?_⟩
        clear hK K
        refine J_done (by kernel_rfl) (OnlyOn.normal ?_)
        clear I3 z12 f12 l12
        go_wp2_with fail
        go_roundw
        case rel => exact ⟨j + 1, _, _, _, by omega, by go_num, hNe, hPe⟩
        case measure => simp [intOf]; omega
      | false =>
        have hend : Hid (itN false K p0 = itN false j p0) := by
          have := itN_stay hok (K - j)
          rw [show j + (K - j) = K by omega] at this
          exact this
        replace hok := hid hok
        have hRFp := hRF.out.trans hend.out
        have hnB := hrd.out
        rw [hRFp] at hnB
        obtain ⟨A5, c5, hr5, hrb, -, -, -⟩ := hP.out
        have zr0 : wr.cell? ⟨r, 0, none⟩ = some (.slice A5 (itN false j p0).2.l.length c5) := by rw [Lib.cell_of_heap hr5]; rfl
        have zr1 : wr.cell? ⟨r, 1, none⟩ = some (.bool (!(itN false j p0).2.ok)) := by rw [Lib.cell_of_heap hr5]; rfl
        have lr := (Array.getElem?_eq_some_iff.1 hr5).1
        have hrm := (Rd.max hrb.1).1
        obtain ⟨Av, cv, rfl, hRX⟩ := hR.out.reads
        have zy : wr.cell? ⟨y, 0, none⟩ = some (.slice Av (itN false j p0).1.length cv) := by rw [Lib.cell_of_heap hR.out.hx]; rfl
        have ly := (Array.getElem?_eq_some_iff.1 hR.out.hx).1
        have hyy := hqry.out
        have hq5 := (hR.out.fr.2.2.2.2 q (by omega) (by show one1 r q + one1 y q = 0; rw [show one1 r q = 0 from if_neg (by omega), show one1 y q = 0 from if_neg (by omega)])).trans h1.out
        have zq : wr.cell? ⟨q, 0, none⟩ = some (.slice none 0 0) := by rw [Lib.cell_of_heap hq5]; rfl
        have fq := Lib.frozen_of_heap hq5 0
        have lq := (Array.getElem?_eq_some_iff.1 hq5).1
        have lq0 := lq
        have hRXq := hid (fun (w' : World) (u : Value) (hx : Ext wr w') => (⟨vs, Rd.of_own (own_set (hx.own hR.out.own) (fun e => by have := own_freshB hR.out.own _ e; omega) 0 u), (NL.set (by omega) (hR.out.nl.frame (f := fun _ => 0) (FR.of_ext hx) (fun _ _ => rfl))).reads⟩ : RX (w'.setCell ⟨q, 0, none⟩ u) Av (itN false j p0).1.length cv (itN false j p0).1))
        have hxw := hid (hx1.out.trans' hR.out.fr (fun a ha => by show one1 r a + one1 y a = 0; rw [show one1 r a = 0 from if_neg (by omega), show one1 y a = 0 from if_neg (by omega)]))
        have hq9 := hqry
        clear hr5 hrb hP hR hq5 hRFp hRF hyy
        generalize (itN false j p0).1 = xs at *
        generalize (itN false j p0).2.ok = ok at *
        generalize hrl : (itN false j p0).2.l = rl at *
        replace hrl := hid hrl
        cases ok with
        | false =>
          replace zr1 : wr.cell? ⟨r, 1, none⟩ = some (.bool true) := zr1
          have hno : ¬ (false = true ∧ rl = [] ∧ wrongX xs = 0) := fun h => by cases h.1
          have hfin : Hid (∀ w', Ext w w' → q < w'.heap.size → GiveRx l w (.returned (.tuple #[.agg #[.slice none 0 0], .int .i64 11])) (w'.setCell ⟨q, 0, none⟩ (.slice none 0 0))) := fun w' hx hl => by
            rcases hnB with ⟨hc, -⟩ | ⟨-, e1, e2⟩
            · exact absurd hc hno
            · refine ⟨none, 0, ?_, ?_, hx.set (p := ⟨q, 0, none⟩) (by rw [hq9.out.2.2.2]; exact Nat.le_refl _) _⟩
              · rw [e1, e2]; rfl
              · rw [e1]; exact ⟨[], Rd.none_ _ 3, trivial⟩
          replace hnB := hid hnB
          clear hno
          go_wp2
          exact bodyPost_ret (v := .tuple #[.agg #[.slice none 0 0], .int .i64 11]) (by simp [results, Try.results19, go_sem, set_get zq]) rfl (hfin.out _ hxw.out lq)
        | true => exact absurd hok.out (by decide)
    · obtain rfl : j = K := by omega
      have hRFp := hRF.out.trans rfl
      have hnB := hrd.out
      rw [hRFp] at hnB
      obtain ⟨A5, c5, hr5, hrb, -, -, -⟩ := hP.out
      have zr0 : wr.cell? ⟨r, 0, none⟩ = some (.slice A5 (itN false j p0).2.l.length c5) := by rw [Lib.cell_of_heap hr5]; rfl
      have zr1 : wr.cell? ⟨r, 1, none⟩ = some (.bool (!(itN false j p0).2.ok)) := by rw [Lib.cell_of_heap hr5]; rfl
      have lr := (Array.getElem?_eq_some_iff.1 hr5).1
      have hrm := (Rd.max hrb.1).1
      obtain ⟨Av, cv, rfl, hRX⟩ := hR.out.reads
      have zy : wr.cell? ⟨y, 0, none⟩ = some (.slice Av (itN false j p0).1.length cv) := by rw [Lib.cell_of_heap hR.out.hx]; rfl
      have ly := (Array.getElem?_eq_some_iff.1 hR.out.hx).1
      have hyy := hqry.out
      have hq5 := (hR.out.fr.2.2.2.2 q (by omega) (by show one1 r q + one1 y q = 0; rw [show one1 r q = 0 from if_neg (by omega), show one1 y q = 0 from if_neg (by omega)])).trans h1.out
      have zq : wr.cell? ⟨q, 0, none⟩ = some (.slice none 0 0) := by rw [Lib.cell_of_heap hq5]; rfl
      have fq := Lib.frozen_of_heap hq5 0
      have lq := (Array.getElem?_eq_some_iff.1 hq5).1
      have lq0 := lq
      have hRXq := hid (fun (w' : World) (u : Value) (hx : Ext wr w') => (⟨vs, Rd.of_own (own_set (hx.own hR.out.own) (fun e => by have := own_freshB hR.out.own _ e; omega) 0 u), (NL.set (by omega) (hR.out.nl.frame (f := fun _ => 0) (FR.of_ext hx) (fun _ _ => rfl))).reads⟩ : RX (w'.setCell ⟨q, 0, none⟩ u) Av (itN false j p0).1.length cv (itN false j p0).1))
      have hxw := hid (hx1.out.trans' hR.out.fr (fun a ha => by show one1 r a + one1 y a = 0; rw [show one1 r a = 0 from if_neg (by omega), show one1 y a = 0 from if_neg (by omega)]))
      have hq9 := hqry
      clear hr5 hrb hP hR hq5 hRFp hRF hyy
      generalize (itN false j p0).1 = xs at *
      generalize (itN false j p0).2.ok = ok at *
      generalize hrl : (itN false j p0).2.l = rl at *
      replace hrl := hid hrl
      cases ok with
      | false =>
        replace zr1 : wr.cell? ⟨r, 1, none⟩ = some (.bool true) := zr1
        have hno : ¬ (false = true ∧ rl = [] ∧ wrongX xs = 0) := fun h => by cases h.1
        have hfin : Hid (∀ w', Ext w w' → q < w'.heap.size → GiveRx l w (.returned (.tuple #[.agg #[.slice none 0 0], .int .i64 11])) (w'.setCell ⟨q, 0, none⟩ (.slice none 0 0))) := fun w' hx hl => by
          rcases hnB with ⟨hc, -⟩ | ⟨-, e1, e2⟩
          · exact absurd hc hno
          · refine ⟨none, 0, ?_, ?_, hx.set (p := ⟨q, 0, none⟩) (by rw [hq9.out.2.2.2]; exact Nat.le_refl _) _⟩
            · rw [e1, e2]; rfl
            · rw [e1]; exact ⟨[], Rd.none_ _ 3, trivial⟩
        replace hnB := hid hnB
        clear hno
        go_wp2
        exact bodyPost_ret (v := .tuple #[.agg #[.slice none 0 0], .int .i64 11]) (by simp [results, Try.results19, go_sem, set_get zq]) rfl (hfin.out _ hxw.out lq)
      | true =>
        replace zr1 : wr.cell? ⟨r, 1, none⟩ = some (.bool false) := zr1
        rcases Nat.eq_zero_or_pos rl.length with hz | hz
        · have hrn : rl = [] := List.eq_nil_of_length_eq_zero hz
          rw [hz] at zr0
          have hWr := hid (fun w' (hx : Ext wr w') => pwrong_any Av xs.length cv xs w' (hRX.ext hx))
          by_cases h0 : wrongX xs = 0
          · have hWg : wrongX xs = 0 := h0
            rw [h0] at hWr
            have hfin : Hid (∀ w', Ext wr w' → q < w'.heap.size → GiveRx l w (.returned (.tuple #[.agg #[.slice Av xs.length cv], .int .i64 0])) (w'.setCell ⟨q, 0, none⟩ (.slice Av xs.length cv))) := fun w' hx hl => by
              rcases hnB with ⟨-, e1, e2⟩ | ⟨hc, -⟩
              · refine ⟨Av, cv, ?_, ?_, (hxw.out.trans hx).set (p := ⟨q, 0, none⟩) (by rw [hq9.out.2.2.2]; exact Nat.le_refl _) _⟩
                · rw [e1, e2]
                · rw [e1]; exact hRXq.out w' _ hx
              · exact absurd ⟨rfl, hrn, h0⟩ hc
            replace hnB := hid hnB
            replace hrn := hid hrn
            clear hWg h0 hRX hRXq
            go_wp2_with fail
            refine (hWr.out _ (Ext.refl _)).mono ?_
            rintro e w7 ⟨rfl, hx7⟩
            replace zy := hx7.cell zy
            replace zq := hx7.cell zq
            replace ly := Nat.lt_of_lt_of_le ly hx7.size
            replace lq := Nat.lt_of_lt_of_le lq hx7.size
            replace fq := (hx7.frozen (p := ⟨q, 0, none⟩) lq0).trans fq
            go_wp2
            exact bodyPost_ret (v := .tuple #[.agg #[.slice Av xs.length cv], .int .i64 0]) (by simp [results, Try.results19, go_sem, set_get zq]) rfl (hfin.out _ hx7 lq)
          · have hWp : 0 < wrongX xs := by have := (wrong_rng xs).1; omega
            have hno : ¬ (true = true ∧ rl = [] ∧ wrongX xs = 0) := fun h => h0 h.2.2
            have hfin : Hid (∀ w', Ext w w' → q < w'.heap.size → GiveRx l w (.returned (.tuple #[.agg #[.slice none 0 0], .int .i64 11])) (w'.setCell ⟨q, 0, none⟩ (.slice none 0 0))) := fun w' hx hl => by
              rcases hnB with ⟨hc, -⟩ | ⟨-, e1, e2⟩
              · exact absurd hc hno
              · refine ⟨none, 0, ?_, ?_, hx.set (p := ⟨q, 0, none⟩) (by rw [hq9.out.2.2.2]; exact Nat.le_refl _) _⟩
                · rw [e1, e2]; rfl
                · rw [e1]; exact ⟨[], Rd.none_ _ 3, trivial⟩
            replace hnB := hid hnB
            clear hno
            replace hrn := hid hrn
            clear h0 hRX hRXq
            generalize wrongX xs = W at *
            go_wp2_with fail
            refine (hWr.out _ (Ext.refl _)).mono ?_
            rintro e w7 ⟨rfl, hx7⟩
            replace zq := hx7.cell zq
            replace lq := Nat.lt_of_lt_of_le lq hx7.size
            replace fq := (hx7.frozen (p := ⟨q, 0, none⟩) lq0).trans fq
            go_wp2
            exact bodyPost_ret (v := .tuple #[.agg #[.slice none 0 0], .int .i64 11]) (by simp [results, Try.results19, go_sem, set_get zq]) rfl (hfin.out _ (hxw.out.trans hx7) lq)
        · have hz1 : (0 : Int) < (rl.length : Int) := by omega
          have hno : ¬ (true = true ∧ rl = [] ∧ wrongX xs = 0) := fun h => by rw [h.2.1] at hz; exact absurd hz (by decide)
          have hfin : Hid (∀ w', Ext w w' → q < w'.heap.size → GiveRx l w (.returned (.tuple #[.agg #[.slice none 0 0], .int .i64 11])) (w'.setCell ⟨q, 0, none⟩ (.slice none 0 0))) := fun w' hx hl => by
            rcases hnB with ⟨hc, -⟩ | ⟨-, e1, e2⟩
            · exact absurd hc hno
            · refine ⟨none, 0, ?_, ?_, hx.set (p := ⟨q, 0, none⟩) (by rw [hq9.out.2.2.2]; exact Nat.le_refl _) _⟩
              · rw [e1, e2]; rfl
              · rw [e1]; exact ⟨[], Rd.none_ _ 3, trivial⟩
          replace hnB := hid hnB
          clear hno
          clear hRX hRXq
          go_wp2
          exact bodyPost_ret (v := .tuple #[.agg #[.slice none 0 0], .int .i64 11]) (by simp [results, Try.results19, go_sem, set_get zq]) rfl (hfin.out _ hxw.out lq)
end Go.Proofs.Ytpijfiaecicpfaa
