/-
  Two kids beside each other: opened with their node, and shut again.
-/
import Derived.Test.YtpijfiaecicpfaaEd
import Derived.Test.YtpijfiaecicpfaaDb
namespace Go.Proofs.Ytpijfiaecicpfaa
open Go.RowKit Go.Shelf
set_option linter.unusedVariables false
set_option linter.unusedSimpArgs false
theorem kth_some {ks : List BT} {i : Nat} (h : i < ks.length) : ks[i]? = some (kth ks i) := by rw [kth_get h, List.getElem?_eq_getElem h]
theorem Ks.two {R : Nat → BT → (Nat → Nat) → Prop} {j : Nat} {ps : List Nat} {ks : List BT} {g : Nat → Nat} (k : Ks R ps ks g) (hj : j + 1 < ks.length) :
    ∃ q r g0 g1 g2 g3, ps[j]? = some q ∧ ps[j + 1]? = some r ∧ R q (kth ks j) g1 ∧ R r (kth ks (j + 1)) g2 ∧ Ks R (ps.take j) (ks.take j) g0 ∧ Ks R (ps.drop (j + 2)) (ks.drop (j + 2)) g3 ∧ ∀ a, g a = g0 a + g1 a + g2 a + g3 a := by
  obtain ⟨q, g0, g1, g4, h1, h2, h3, h4, h5⟩ := k.cut (kth_some (show j < ks.length by omega))
  obtain ⟨r, z0, g2, g3, i1, i2, i3, i4, i5⟩ := h4.cut (i := 0) (K := kth ks (j + 1)) (by rw [List.getElem?_drop, Nat.add_zero]; exact kth_some hj)
  rw [List.getElem?_drop, Nat.add_zero] at i1
  rw [List.drop_drop, List.drop_drop] at i4
  refine ⟨q, r, g0, g1, g2, g3, h1, i1, h2, i2, h3, i4, fun a => ?_⟩
  have z : z0 a = 0 := i3 a
  rw [h5 a, i5 a, z]
  omega
def F9 (p q r : Nat) (lv kv lq kq lr kr : Value) (a : Nat) : Nat := one1 p a + ob lv a + ob kv a + one1 q a + ob lq a + ob kq a + one1 r a + ob lr a + ob kr a
/-- A node with two kids beside each other, laid open. -/
structure Pair (w : World) (h p j : Nat) (l : List Te) (ks : List BT) (f : Nat → Nat) (q r : Nat) (lv kv vq kq vr kr : Value) (ps pq pr : List Nat) (gq gr g0 g3 : Nat → Nat) : Prop where
  tri : Tri (F9 p q r lv kv vq kq vr kr) w w p q r lv kv vq kq vr kr l.length ps.length (kth ks j).l.length pq.length (kth ks (j + 1)).l.length pr.length (tents l) (ptrs ps) (tents (kth ks j).l) (ptrs pq) (tents (kth ks (j + 1)).l) (ptrs pr)
  hq : ps[j]? = some q
  hr : ps[j + 1]? = some r
  dq : Kd w h pq (kth ks j).ks gq
  dr : Kd w h pr (kth ks (j + 1)).ks gr
  k0 : Ks (TN w h) (ps.take j) (ks.take j) g0
  k3 : Ks (TN w h) (ps.drop (j + 2)) (ks.drop (j + 2)) g3
  sum : ∀ a, f a = F9 p q r lv kv vq kq vr kr a + (gq a + gr a) + (g0 a + g3 a)
  n1 : ∀ a, f a ≤ 1
  pl : ps.length = ks.length
theorem TN.pair {w : World} {h p j : Nat} {l : List Te} {ks : List BT} {f : Nat → Nat} (hT : TN w (h + 1) p (.nd l ks) f) (hn : ∀ a, f a ≤ 1) (hj : j + 1 < ks.length) :
    ∃ q r lv kv vq kq vr kr ps pq pr gq gr g0 g3, Pair w h p j l ks f q r lv kv vq kq vr kr ps pq pr gq gr g0 g3 := by
  obtain ⟨lv, kv, ps, g, e1, e2, e3, e5, e4⟩ := hT
  obtain ⟨q, r, g0, g1, g2, g3, h1, h2, h3, h4, h5, h6, h7⟩ := e5.two hj
  rw [← nd_eta (kth ks j)] at h3
  rw [← nd_eta (kth ks (j + 1))] at h4
  obtain ⟨vq, kq, pq, gq, a1, a2, a3, a5, a4⟩ := h3.opn
  obtain ⟨vr, kr, pr, gr, b1, b2, b3, b5, b4⟩ := h4.opn
  have hs : ∀ a, f a = F9 p q r lv kv vq kq vr kr a + (gq a + gr a) + (g0 a + g3 a) := fun a => by
    rw [e4 a, h7 a, a4 a, b4 a]
    unfold F9
    omega
  refine ⟨q, r, lv, kv, vq, kq, vr, kr, ps, pq, pr, gq, gr, g0, g3, ⟨e1, a1, b1, e2, e3, a2, a3, b2, b3, fun a => ?_, FR.of_ext (Ext.refl w), fun a ha => Nat.le_refl _⟩, h1, h2, a5, b5, h5, h6, hs, hn, e5.len⟩
  have := hs a
  have := hn a
  unfold F9 at *
  omega
theorem Kd.app {w : World} {h : Nat} {ps qs : List Nat} {ks ms : List BT} {f g : Nat → Nat} (k : Kd w h ps ks f) (m : Kd w h qs ms g) : Kd w h (ps ++ qs) (ks ++ ms) (fun a => f a + g a) := by
  cases h with
  | zero =>
    obtain ⟨rfl, rfl, hf⟩ := k
    obtain ⟨rfl, rfl, hg⟩ := m
    exact ⟨rfl, rfl, fun a => by show f a + g a = 0; rw [hf a, hg a]⟩
  | succ h => exact Ks.app k m
section
variable {w w' : World} {h p j q r : Nat} {l : List Te} {ks : List BT} {f : Nat → Nat} {lv kv vq kq vr kr lv' kv' vq' kq' vr' kr' : Value} {ps pq pr ps' pq' pr' : List Nat} {gq gr g0 g3 gq' gr' : Nat → Nat} {L lq' lr' : List Te} {kq1 kr1 : List BT}
/-- Two kids remain. -/
theorem Pair.two (P : Pair w h p j l ks f q r lv kv vq kq vr kr ps pq pr gq gr g0 g3)
    (T : Tri (F9 p q r lv kv vq kq vr kr) w w' p q r lv' kv' vq' kq' vr' kr' L.length ps.length lq'.length pq'.length lr'.length pr'.length (tents L) (ptrs ps) (tents lq') (ptrs pq') (tents lr') (ptrs pr'))
    (k1 : Kd w h pq' kq1 gq') (k2 : Kd w h pr' kr1 gr') (hk : ∀ a, gq' a + gr' a = gq a + gr a) : Turned w w' (h + 1) p f (.nd L (ks.take j ++ .nd lq' kq1 :: .nd lr' kr1 :: ks.drop (j + 2))) := by
  have b0 := Ks.bound (fun p T g h1 => TN.bound h1) P.k0
  have b3 := Ks.bound (fun p T g h1 => TN.bound h1) P.k3
  have b1 := k1.bound
  have b2 := k2.bound
  have z : ∀ a, 0 < gq' a + gr' a + g0 a + g3 a → F9 p q r lv kv vq kq vr kr a = 0 := fun a ha => by have := P.n1 a; have := P.sum a; have := hk a; omega
  have c0 := Ks.frame (fun _ _ _ h1 h2 => TN.frame T.fr h1 h2) P.k0 (fun a ha => z a (by omega))
  have c3 := Ks.frame (fun _ _ _ h1 h2 => TN.frame T.fr h1 h2) P.k3 (fun a ha => z a (by omega))
  have c1 := k1.frame T.fr (fun a ha => z a (by omega))
  have c2 := k2.frame T.fr (fun a ha => z a (by omega))
  have nq : TN w' h q (.nd lq' kq1) (fun a => one1 q a + ob vq' a + ob kq' a + gq' a) := TN.shut T.hq T.o3 T.o4 c1 (fun _ => rfl)
  have nr : TN w' h r (.nd lr' kr1) (fun a => one1 r a + ob vr' a + ob kr' a + gr' a) := TN.shut T.hr T.o5 T.o6 c2 (fun _ => rfl)
  have kr2 : Ks (TN w' h) (r :: ps.drop (j + 2)) (.nd lr' kr1 :: ks.drop (j + 2)) (fun a => (one1 r a + ob vr' a + ob kr' a + gr' a) + g3 a) := ⟨_, _, nr, c3, fun _ => rfl⟩
  have kall := Ks.mid c0 nq kr2
  obtain ⟨q1, q2⟩ := List.getElem?_eq_some_iff.1 P.hq
  obtain ⟨r1, r2⟩ := List.getElem?_eq_some_iff.1 P.hr
  have hps : ps.take j ++ q :: r :: ps.drop (j + 2) = ps := by
    have e1 := list_cut (l := ps) (i := j) q1
    rw [q2, List.drop_eq_getElem_cons r1, r2] at e1
    exact e1.symm
  rw [hps] at kall
  refine ⟨_, TN.shut T.hp T.o1 T.o2 kall (fun _ => rfl), fun a => ?_, fun a ha => ?_, T.fr.mono (fun k hk' h0 => by have := P.sum k; omega)⟩
  · by_cases hs : a < w.heap.size
    · have h1 := T.le a hs
      have h2 := P.n1 a
      have h3 := P.sum a
      have h4 := hk a
      show one1 p a + ob lv' a + ob kv' a + (g0 a + (one1 q a + ob vq' a + ob kq' a + gq' a) + (one1 r a + ob vr' a + ob kr' a + gr' a + g3 a)) ≤ 1
      omega
    · have h1 := T.nd a
      have h2 := b0 a (by omega)
      have h3 := b1 a (by omega)
      have h4 := b2 a (by omega)
      have h5 := b3 a (by omega)
      show one1 p a + ob lv' a + ob kv' a + (g0 a + (one1 q a + ob vq' a + ob kq' a + gq' a) + (one1 r a + ob vr' a + ob kr' a + gr' a + g3 a)) ≤ 1
      omega
  · have h1 := T.le a ha
    have h3 := P.sum a
    have h4 := hk a
    show one1 p a + ob lv' a + ob kv' a + (g0 a + (one1 q a + ob vq' a + ob kq' a + gq' a) + (one1 r a + ob vr' a + ob kr' a + gr' a + g3 a)) ≤ f a
    omega
/-- One kid remains. -/
theorem Pair.one (P : Pair w h p j l ks f q r lv kv vq kq vr kr ps pq pr gq gr g0 g3)
    (T : Tri (F9 p q r lv kv vq kq vr kr) w w' p q r lv' kv' vq' kq' vr' kr' L.length ps'.length lq'.length pq'.length lr'.length pr'.length (tents L) (ptrs ps') (tents lq') (ptrs pq') (tents lr') (ptrs pr'))
    (hps' : ps' = ps.take (j + 1) ++ ps.drop (j + 2))
    (k1 : Kd w h pq' kq1 gq') (hk : ∀ a, gq' a = gq a + gr a) : Turned w w' (h + 1) p f (.nd L (ks.take j ++ .nd lq' kq1 :: ks.drop (j + 2))) := by
  have b0 := Ks.bound (fun p T g h1 => TN.bound h1) P.k0
  have b3 := Ks.bound (fun p T g h1 => TN.bound h1) P.k3
  have b1 := k1.bound
  have z : ∀ a, 0 < gq' a + g0 a + g3 a → F9 p q r lv kv vq kq vr kr a = 0 := fun a ha => by have := P.n1 a; have := P.sum a; have := hk a; omega
  have c0 := Ks.frame (fun _ _ _ h1 h2 => TN.frame T.fr h1 h2) P.k0 (fun a ha => z a (by omega))
  have c3 := Ks.frame (fun _ _ _ h1 h2 => TN.frame T.fr h1 h2) P.k3 (fun a ha => z a (by omega))
  have c1 := k1.frame T.fr (fun a ha => z a (by omega))
  have nq : TN w' h q (.nd lq' kq1) (fun a => one1 q a + ob vq' a + ob kq' a + gq' a) := TN.shut T.hq T.o3 T.o4 c1 (fun _ => rfl)
  have kall := Ks.mid c0 nq c3
  obtain ⟨q1, q2⟩ := List.getElem?_eq_some_iff.1 P.hq
  have hps : ps.take j ++ q :: ps.drop (j + 2) = ps' := by
    rw [hps', List.take_add_one, P.hq]
    simp
  rw [hps] at kall
  refine ⟨_, TN.shut T.hp T.o1 T.o2 kall (fun _ => rfl), fun a => ?_, fun a ha => ?_, T.fr.mono (fun k hk' h0 => by have := P.sum k; omega)⟩
  · by_cases hs : a < w.heap.size
    · have h1 := T.le a hs
      have h2 := P.n1 a
      have h3 := P.sum a
      have h4 := hk a
      show one1 p a + ob lv' a + ob kv' a + (g0 a + (one1 q a + ob vq' a + ob kq' a + gq' a) + g3 a) ≤ 1
      omega
    · have h1 := T.nd a
      have h2 := b0 a (by omega)
      have h3 := b1 a (by omega)
      have h5 := b3 a (by omega)
      show one1 p a + ob lv' a + ob kv' a + (g0 a + (one1 q a + ob vq' a + ob kq' a + gq' a) + g3 a) ≤ 1
      omega
  · have h1 := T.le a ha
    have h3 := P.sum a
    have h4 := hk a
    show one1 p a + ob lv' a + ob kv' a + (g0 a + (one1 q a + ob vq' a + ob kq' a + gq' a) + g3 a) ≤ f a
    omega
end
theorem Shp.kn {h : Nat} {K : BT} (hs : Shp h K) : K.ks.length = 0 ∨ K.ks.length = K.l.length + 1 := by
  obtain ⟨l, ks⟩ := K
  cases h with
  | zero => left; have : ks = [] := hs; rw [this]; rfl
  | succ h => exact .inr hs.1
section
variable {w : World} {h p i j : Nat} {l : List Te} {ks : List BT} {f : Nat → Nat}
/-- fromLeft, on a tree. -/
theorem left_T (hT : TN w (h + 1) p (.nd l ks) f) (hn : ∀ a, f a ≤ 1) (hkl : ks.length = l.length + 1) (hl : l.length ≤ 4) (hi : i = j + 1) (hj : j < l.length) (s1 : Shp h (kth ks j)) (s2 : Shp h (kth ks i)) (n1 : 1 ≤ (kth ks j).l.length) (n2 : (kth ks j).l.length ≤ 4) (n3 : (kth ks i).l.length ≤ 4) :
    Calls Try.prog 119 #[.pointer (some ⟨p, 0, none⟩), .int .i64 i] w fun e w' => e = .returned (.tuple #[]) ∧ Turned w w' (h + 1) p f (leftT l ks j) := by
  subst hi
  obtain ⟨q, r, lv, kv, vq, kq, vr, kr, ps, pq, pr, gq, gr, g0, g3, P⟩ := hT.pair hn (j := j) (by omega)
  have hpl := P.pl
  have hpq := P.dq.len
  have hpr := P.dr.len
  have kq' := s1.kn
  have kr' := s2.kn
  obtain ⟨m, hm⟩ : ∃ m, (kth ks j).l.length = m + 1 := ⟨(kth ks j).l.length - 1, by omega⟩
  have T := P.tri
  rw [hm] at T
  have ept : pq.take (m + 1) = pq.take (pq.length - 1) := by
    rcases kq' with h0 | h0
    · rw [List.eq_nil_of_length_eq_zero (hpq.trans h0)]; simp
    · rw [show pq.length - 1 = m + 1 by omega]
  have epd : pq.drop (m + 1) = pq.drop (pq.length - 1) := by
    rcases kq' with h0 | h0
    · rw [List.eq_nil_of_length_eq_zero (hpq.trans h0)]; simp
    · rw [show pq.length - 1 = m + 1 by omega]
  refine (left_any _ p q r (j + 1) j m l (kth ks j).l (kth ks (j + 1)).l ps pq pr lv kv vq kq vr kr w T P.hq P.hr rfl hj hm (by omega) (by omega) (by omega) (by omega) (by omega) (by omega) _ _ _ _ _ rfl rfl rfl rfl rfl).mono ?_
  rintro e w' ⟨rfl, lv', kv', vq', kq1, vr', kr1, T'⟩
  refine ⟨rfl, ?_⟩
  obtain ⟨g1, g2, m1, m2, m3⟩ := P.dq.parts (m := pq.length - 1)
  rw [ept, epd] at T'
  have := P.two (kq1 := (kth ks j).ks.take (pq.length - 1)) (kr1 := (kth ks j).ks.drop (pq.length - 1) ++ (kth ks (j + 1)).ks) T' m1 (m2.app P.dr) (fun a => by show g1 a + (g2 a + gr a) = gq a + gr a; rw [m3 a]; omega)
  rw [setC_cut hj] at this
  unfold leftT
  rw [show (kth ks j).ks.length - 1 = pq.length - 1 by omega, show (kth ks j).l.length - 1 = m by omega]
  exact this
/-- fromRight, on a tree. -/
theorem right_T (hT : TN w (h + 1) p (.nd l ks) f) (hn : ∀ a, f a ≤ 1) (hkl : ks.length = l.length + 1) (hl : l.length ≤ 4) (hj : j < l.length) (s1 : Shp h (kth ks j)) (s2 : Shp h (kth ks (j + 1))) (n1 : 1 ≤ (kth ks (j + 1)).l.length) (n2 : (kth ks j).l.length ≤ 4) (n3 : (kth ks (j + 1)).l.length ≤ 4) :
    Calls Try.prog 120 #[.pointer (some ⟨p, 0, none⟩), .int .i64 j] w fun e w' => e = .returned (.tuple #[]) ∧ Turned w w' (h + 1) p f (rightT l ks j) := by
  obtain ⟨q, r, lv, kv, vq, kq, vr, kr, ps, pq, pr, gq, gr, g0, g3, P⟩ := hT.pair hn (j := j) (by omega)
  have hpl := P.pl
  have hpq := P.dq.len
  have hpr := P.dr.len
  have kq' := s1.kn
  have kr' := s2.kn
  obtain ⟨m, hm⟩ : ∃ m, (kth ks (j + 1)).l.length = m + 1 := ⟨(kth ks (j + 1)).l.length - 1, by omega⟩
  have T := P.tri
  rw [hm] at T
  refine (right_any _ p q r (j + 1) j m l (kth ks j).l (kth ks (j + 1)).l ps pq pr lv kv vq kq vr kr w T P.hq P.hr rfl hj hm (by omega) (by omega) (by omega) (by omega) (by omega) (by omega) _ _ _ _ _ rfl rfl rfl rfl rfl).mono ?_
  rintro e w' ⟨rfl, lv', kv', vq', kq1, vr', kr1, T'⟩
  refine ⟨rfl, ?_⟩
  obtain ⟨g1, g2, m1, m2, m3⟩ := P.dr.parts (m := 1)
  have := P.two (kq1 := (kth ks j).ks ++ (kth ks (j + 1)).ks.take 1) (kr1 := (kth ks (j + 1)).ks.drop 1) T' (P.dq.app m1) m2 (fun a => by show gq a + g1 a + g2 a = gq a + gr a; rw [m3 a]; omega)
  rw [setC_cut hj] at this
  exact this
/-- join, on a tree. -/
theorem join_T (hT : TN w (h + 1) p (.nd l ks) f) (hn : ∀ a, f a ≤ 1) (hkl : ks.length = l.length + 1) (hl : l.length ≤ 4) (hj : j < l.length) (s1 : Shp h (kth ks j)) (s2 : Shp h (kth ks (j + 1))) (n2 : (kth ks j).l.length ≤ 4) (n3 : (kth ks (j + 1)).l.length ≤ 4) :
    Calls Try.prog 121 #[.pointer (some ⟨p, 0, none⟩), .int .i64 j] w fun e w' => e = .returned (.tuple #[]) ∧ Turned w w' (h + 1) p f (joinT l ks j) := by
  obtain ⟨q, r, lv, kv, vq, kq, vr, kr, ps, pq, pr, gq, gr, g0, g3, P⟩ := hT.pair hn (j := j) (by omega)
  have hpl := P.pl
  have hpq := P.dq.len
  have hpr := P.dr.len
  have kq' := s1.kn
  have kr' := s2.kn
  refine (join_any _ p q r (j + 1) j (j + 2) l (kth ks j).l (kth ks (j + 1)).l ps pq pr lv kv vq kq vr kr w P.tri P.hq P.hr rfl rfl hj (by omega) (by omega) (by omega) (by omega) (by omega) (by omega) _ _ _ _ rfl rfl rfl rfl).mono ?_
  rintro e w' ⟨rfl, lv', kv', vq', kq1, vr', kr1, T'⟩
  refine ⟨rfl, ?_⟩
  exact P.one (kq1 := (kth ks j).ks ++ (kth ks (j + 1)).ks) T' rfl (P.dq.app P.dr) (fun _ => rfl)
end
end Go.Proofs.Ytpijfiaecicpfaa
