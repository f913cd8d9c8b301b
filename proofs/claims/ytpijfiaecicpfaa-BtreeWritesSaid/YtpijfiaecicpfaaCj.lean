/-
  The bytes of an index, plainly; read back; bytes that are appended.
-/
import Derived.Test.YtpijfiaecicpfaaCg
import Derived.Lib.AppendStr
namespace Go.Proofs.Ytpijfiaecicpfaa
open Go.RowKit Go.Shelf
set_option linter.unusedVariables false
set_option linter.unusedSimpArgs false
/-! ### Plainly -/
def twoL (z : Int) : List Int := [z % 256, z / 256]
def kvB (t : Te) : List Int := (t.key.size : Int) :: (txt t.key ++ twoL t.no)
def ndB (x : Nx) : List Int := (x.keys.length : Int) :: (x.kids.length : Int) :: ((ents x).flatMap kvB ++ x.kids.flatMap twoL)
def bytesX (xs : List Nx) : List Int := twoL xs.length ++ xs.flatMap ndB
def okN (x : Nx) : Prop := x.recs.length = x.keys.length ∧ x.keys.length ≤ 4 ∧ x.kids.length ≤ 5 ∧ (∀ t ∈ ents x, okT t = true) ∧ ∀ z ∈ x.kids, 0 ≤ z ∧ z ≤ 65535
theorem okT_is {t : Te} (h : okT t = true) : t.key.size ≤ 100 ∧ 1 ≤ t.no ∧ t.no ≤ 300 := by
  unfold okT at h
  simpa using h
theorem tlW_mem1 {e : Te} : ∀ {l : List Te} {ms : List (List Te)}, e ∈ l → e ∈ tlW l ms
  | x :: l, [], h => h
  | x :: l, m :: ms, h => by
    rcases List.mem_cons.1 h with rfl | h
    · exact List.mem_cons_self
    · exact List.mem_cons_of_mem _ (List.mem_append_right _ (tlW_mem1 h))
theorem tlW_mem2 {e : Te} {m : List Te} (he : e ∈ m) : ∀ {l : List Te} {ms : List (List Te)}, ms.length ≤ l.length → m ∈ ms → e ∈ tlW l ms
  | [], m' :: ms, hl, _ => absurd hl (by simp)
  | _, [], _, h => by cases h
  | x :: l, m' :: ms, hl, h => by
    rcases List.mem_cons.1 h with rfl | h
    · exact List.mem_cons_of_mem _ (List.mem_append_left _ he)
    · exact List.mem_cons_of_mem _ (List.mem_append_right _ (tlW_mem2 he (by simpa using hl) h))
theorem wv_mem1 {e : Te} {l : List Te} : ∀ {ms : List (List Te)}, e ∈ l → e ∈ wv l ms
  | [], h => h
  | m :: ms, h => List.mem_append_right _ (tlW_mem1 h)
theorem wv_mem2 {e : Te} {m : List Te} (he : e ∈ m) {l : List Te} : ∀ {ms : List (List Te)}, ms.length = l.length + 1 → m ∈ ms → e ∈ wv l ms
  | m' :: ms, hl, h => by
    rcases List.mem_cons.1 h with rfl | h
    · exact List.mem_append_left _ he
    · exact List.mem_append_right _ (tlW_mem2 he (by simp at hl; omega) h)
section
variable {xs : List Nx}
theorem flat_ents {h k : Nat} {e : Te} (he : e ∈ ents (xth xs k)) : e ∈ flat h (btx xs h k) := by
  cases h with
  | zero => exact he
  | succ h => exact wv_mem1 he
theorem flat_kid (hs : shpX xs) {h k u : Nat} (hU : UD xs (h + 1) k) (hu : u ∈ kd xs k) {e : Te} (he : e ∈ flat h (btx xs h u)) : e ∈ flat (h + 1) (btx xs (h + 1) k) := by
  have s1 := shape_is (hs k hU.1)
  have hne : (kd xs k).length ≠ 0 := fun e => hU.2.1 (List.eq_nil_of_length_eq_zero e)
  rw [kd_len] at hne
  refine wv_mem2 he ?_ (List.mem_map.2 ⟨_, List.mem_map.2 ⟨u, hu, rfl⟩, rfl⟩)
  rw [List.length_map, List.length_map, kd_len, ents_len s1.1]
  omega
theorem reach_flat (hs : shpX xs) {H : Nat} (h0 : UD xs H 0) {k : Nat} (hr : Reach xs k) : ∃ h, UD xs h k ∧ ∀ e ∈ flat h (btx xs h k), e ∈ flat H (btx xs H 0) := by
  induction hr with
  | zero => exact ⟨H, h0, fun e he => he⟩
  | kid _ hu ih =>
    obtain ⟨h, hU, hf⟩ := ih
    cases h with
    | zero => rw [hU.2] at hu; cases hu
    | succ h => exact ⟨h, hU.2.2 _ hu, fun e he => hf e (flat_kid hs hU hu he)⟩
theorem okN_at (h0 : wrongX xs = 0) {k : Nat} (hk : k < xs.length) : okN (xth xs k) := by
  obtain ⟨h1, h2, hs, ht, hf, ⟨H, hU⟩, hok, hsr⟩ := wrong_none.1 h0
  obtain ⟨s1, s2, s3⟩ := shape_is (hs k hk)
  refine ⟨s1, s2, by omega, fun t htm => ?_, fun z hz => ?_⟩
  · obtain ⟨h, hU2, hfl⟩ := reach_flat hs hU (ht.2 k hk)
    refine hok t ?_
    unfold entX
    rw [hX_is hU]
    exact hfl t (flat_ents htm)
  · have := ht.1.1 z (List.mem_flatMap.2 ⟨xs[k], List.getElem_mem hk, by rw [← xth_get hk]; exact hz⟩)
    omega
theorem okN_all (h0 : wrongX xs = 0) : ∀ x ∈ xs, okN x := fun x hx => by
  obtain ⟨k, hk, rfl⟩ := List.getElem_of_mem hx
  rw [← xth_get hk]
  exact okN_at h0 hk
end
theorem txt_len (s : ByteArray) : (txt s).length = s.size := by
  unfold txt
  rw [List.length_map]
  rfl
theorem txt_isB (s : ByteArray) : isB (txt s) := fun x hx => by
  obtain ⟨b, _, rfl⟩ := List.mem_map.1 hx
  have := b.toNat_lt
  omega
theorem strI_txt (s : ByteArray) : strI (txt s) = s := by
  unfold strI txt
  rw [List.map_map]
  have e : ((fun x : Int => UInt8.ofNat x.toNat) ∘ fun b : UInt8 => (b.toNat : Int)) = id := by
    funext b
    simp
  rw [e, List.map_id]
theorem tk_app (l r : List Int) : tk l.length ⟨l ++ r, true⟩ = (l, ⟨r, true⟩) := by
  unfold tk
  rw [if_pos (by simp)]
  simp
theorem one_app (a : Int) (r : List Int) : oneV ⟨a :: r, true⟩ = a ∧ (tk 1 ⟨a :: r, true⟩).2 = ⟨r, true⟩ := by
  have h := tk_app [a] r
  have h' : tk 1 ⟨a :: r, true⟩ = ([a], ⟨r, true⟩) := h
  unfold oneV
  rw [h']
  exact ⟨rfl, rfl⟩
theorem two_app (z : Int) (r : List Int) : twoV ⟨twoL z ++ r, true⟩ = z ∧ (tk 2 ⟨twoL z ++ r, true⟩).2 = ⟨r, true⟩ := by
  have h' : tk 2 ⟨twoL z ++ r, true⟩ = (twoL z, ⟨r, true⟩) := tk_app (twoL z) r
  unfold twoV
  rw [h']
  refine ⟨?_, rfl⟩
  show z % 256 + z / 256 * 256 = z
  omega
theorem k_app (X : Nx) (t : Te) (r : List Int) : kStep (X, ⟨kvB t ++ r, true⟩) = (⟨X.keys ++ [t.key], X.recs ++ [t.no], X.kids⟩, ⟨r, true⟩) := by
  unfold kStep kvB
  rw [List.cons_append]
  obtain ⟨h1, h2⟩ := one_app (t.key.size : Int) ((txt t.key ++ twoL t.no) ++ r)
  dsimp only
  rw [h1, h2, List.append_assoc]
  have h3 : tk (t.key.size : Int).toNat ⟨txt t.key ++ (twoL t.no ++ r), true⟩ = (txt t.key, ⟨twoL t.no ++ r, true⟩) := by
    rw [Int.toNat_natCast, ← txt_len]
    exact tk_app _ _
  rw [h3]
  obtain ⟨h4, h5⟩ := two_app t.no r
  dsimp only
  rw [h4, h5, strI_txt]
theorem d_app (X : Nx) (z : Int) (r : List Int) : dStep (X, ⟨twoL z ++ r, true⟩) = (⟨X.keys, X.recs, X.kids ++ [z]⟩, ⟨r, true⟩) := by
  obtain ⟨h4, h5⟩ := two_app z r
  unfold dStep
  dsimp only
  rw [h4, h5]
theorem it_front (F : Nx × St → Nx × St) (p : Nx × St) : ∀ n, itG false F (n + 1) p = itG false F n (F p)
  | 0 => rfl
  | n + 1 => by
    have ih := it_front F p n
    show F (itG false F (n + 1) p) = F (itG false F n (F p))
    rw [ih]
theorem itk (r : List Int) : ∀ (l : List Te) (X : Nx), itG false kStep l.length (X, ⟨l.flatMap kvB ++ r, true⟩) = (⟨X.keys ++ l.map Te.key, X.recs ++ l.map Te.no, X.kids⟩, ⟨r, true⟩)
  | [], X => by simp [itG]
  | t :: l, X => by
    rw [List.length_cons, it_front, List.flatMap_cons, List.append_assoc, k_app, itk r l]
    simp
theorem itd (r : List Int) : ∀ (l : List Int) (X : Nx), itG false dStep l.length (X, ⟨l.flatMap twoL ++ r, true⟩) = (⟨X.keys, X.recs, X.kids ++ l⟩, ⟨r, true⟩)
  | [], X => by simp [itG]
  | t :: l, X => by
    rw [List.length_cons, it_front, List.flatMap_cons, List.append_assoc, d_app, itd r l]
    simp
theorem node_back {x : Nx} (h : okN x) (r : List Int) : nodeF false ⟨ndB x ++ r, true⟩ = (x, ⟨r, true⟩) := by
  unfold nodeF node0 ndB
  rw [List.cons_append, List.cons_append]
  obtain ⟨h1, h2⟩ := one_app (x.keys.length : Int) ((x.kids.length : Int) :: ((ents x).flatMap kvB ++ x.kids.flatMap twoL ++ r))
  obtain ⟨h3, h4⟩ := one_app (x.kids.length : Int) ((ents x).flatMap kvB ++ x.kids.flatMap twoL ++ r)
  rw [h1, h2, h3, h4, Int.toNat_natCast, Int.toNat_natCast, List.append_assoc]
  have e1 := itk (x.kids.flatMap twoL ++ r) (ents x) ⟨[], [], []⟩
  rw [ents_len h.1] at e1
  rw [e1, ents_keys h.1, ents_recs h.1, itd]
  simp
theorem itN_front (p : List Nx × St) (hp : p.2.ok = true) : ∀ n, itN false (n + 1) p = itN false n (p.1 ++ [(nodeF false p.2).1], (nodeF false p.2).2)
  | 0 => by
    show (if p.2.ok = false then p else _) = _
    rw [hp, if_neg (by decide)]
    rfl
  | n + 1 => by
    have ih := itN_front p hp n
    rw [itN, ih]
    rfl
theorem itn (r : List Int) : ∀ (l acc : List Nx), (∀ x ∈ l, okN x) → itN false l.length (acc, ⟨l.flatMap ndB ++ r, true⟩) = (acc ++ l, ⟨r, true⟩)
  | [], acc, _ => by simp [itN]
  | x :: l, acc, h => by
    rw [List.length_cons, itN_front _ rfl, List.flatMap_cons, List.append_assoc]
    dsimp only
    rw [node_back (h x List.mem_cons_self), itn r l _ (fun y hy => h y (List.mem_cons_of_mem _ hy))]
    simp
theorem read_back {xs : List Nx} (h0 : wrongX xs = 0) : readF false (bytesX xs) = (xs, ⟨[], true⟩) := by
  unfold readF bytesX
  obtain ⟨h1, h2⟩ := two_app (xs.length : Int) (xs.flatMap ndB)
  rw [h1, h2, Int.toNat_natCast]
  have := itn [] xs [] (okN_all h0)
  rw [List.append_nil] at this
  rw [this]
  rfl
theorem rd_back {xs : List Nx} (h0 : wrongX xs = 0) : rdX (bytesX xs) = xs ∧ rdE (bytesX xs) = 0 := by
  rcases rd_of (g := false) (bytesX xs) with ⟨-, e1, e2⟩ | ⟨hc, -⟩
  · rw [read_back h0] at e1
    exact ⟨e1, e2⟩
  · rw [read_back h0] at hc
    exact absurd ⟨rfl, rfl, h0⟩ hc
theorem isB_app {a b : List Int} (h1 : isB a) (h2 : isB b) : isB (a ++ b) := fun x hx => by
  rcases List.mem_append.1 hx with h | h
  · exact h1 x h
  · exact h2 x h
theorem isB_cons {a : Int} {b : List Int} (h1 : 0 ≤ a ∧ a ≤ 255) (h2 : isB b) : isB (a :: b) := fun x hx => by
  rcases List.mem_cons.1 hx with rfl | h
  · exact h1
  · exact h2 x h
theorem isB_nil : isB [] := fun x hx => by cases hx
theorem two_isB {z : Int} (h : 0 ≤ z ∧ z ≤ 65535) : isB (twoL z) := isB_cons (by omega) (isB_cons (by omega) isB_nil)
theorem flat_isB {α : Type} {F : α → List Int} : ∀ {l : List α}, (∀ x ∈ l, isB (F x)) → isB (l.flatMap F)
  | [], _ => isB_nil
  | x :: l, h => by rw [List.flatMap_cons]; exact isB_app (h x List.mem_cons_self) (flat_isB fun y hy => h y (List.mem_cons_of_mem _ hy))
theorem kv_isB {t : Te} (h : okT t = true) : isB (kvB t) := by
  have := okT_is h
  exact isB_cons (by omega) (isB_app (txt_isB _) (two_isB (by omega)))
theorem nd_isB {x : Nx} (h : okN x) : isB (ndB x) := by
  obtain ⟨h1, h2, h3, h4, h5⟩ := h
  exact isB_cons (by omega) (isB_cons (by omega) (isB_app (flat_isB fun t ht => kv_isB (h4 t ht)) (flat_isB fun z hz => two_isB (h5 z hz))))
theorem bytes_isB {xs : List Nx} (h0 : wrongX xs = 0) : isB (bytesX xs) := by
  have := wrong_none.1 h0
  exact isB_app (two_isB (by omega)) (flat_isB fun x hx => nd_isB (okN_all h0 x hx))
theorem flat_lenB {α : Type} {F : α → List Int} {m : Nat} : ∀ {l : List α}, (∀ x ∈ l, (F x).length ≤ m) → (l.flatMap F).length ≤ l.length * m
  | [], _ => by simp
  | x :: l, h => by
    have h1 := h x List.mem_cons_self
    have h2 := flat_lenB (l := l) fun y hy => h y (List.mem_cons_of_mem _ hy)
    rw [List.flatMap_cons, List.length_append, List.length_cons, Nat.succ_mul]
    omega
theorem kv_len {t : Te} (h : okT t = true) : (kvB t).length ≤ 103 := by
  have := okT_is h
  simp only [kvB, twoL, List.length_cons, List.length_append, txt_len, List.length_nil]
  omega
theorem nd_len {x : Nx} (h : okN x) : (ndB x).length ≤ 424 := by
  obtain ⟨h1, h2, h3, h4, h5⟩ := h
  have a := flat_lenB (l := ents x) (F := kvB) (m := 103) fun t ht => kv_len (h4 t ht)
  have b := flat_lenB (l := x.kids) (F := twoL) (m := 2) fun t ht => Nat.le_refl _
  rw [ents_len h1] at a
  simp only [ndB, List.length_cons, List.length_append]
  omega
theorem flat_snoc {α : Type} {F : α → List Int} {l : List α} {k : Nat} (hk : k < l.length) : (l.take (k + 1)).flatMap F = (l.take k).flatMap F ++ F l[k] := by
  rw [List.take_succ_eq_append_getElem hk, List.flatMap_append]
  simp
/-! ### In memory -/
/-- Bytes that a call lays, in a row of its own; beside a block of another type. -/
def OW (w0 w : World) (v : Value) (L : List Int) (p : Nat) (cs : Array Value) (t : TypeId) : Prop := Ext w0 w ∧ w.ownsRow w0.heap.size 5 1 v L.length (bys L) ∧ w.heap[p]? = some (.cells cs t (0, 0)) ∧ t ≠ 5
section
variable {w0 w w' : World} {v : Value} {L M : List Int} {p : Nat} {cs : Array Value} {t : TypeId}
theorem OW.nil (h : Ext w0 w) (hp : w.heap[p]? = some (.cells cs t (0, 0))) (ht : t ≠ 5) : OW w0 w (.slice none 0 0) [] p cs t := ⟨h, World.ownsRow_nil _ _ _ _, hp, ht⟩
theorem OW.up (h : OW w0 w v L p cs t) (hx : Ext w w') : OW w0 w' v L p cs t := ⟨h.1.trans hx, hx.own h.2.1, (hx.block (Array.getElem?_eq_some_iff.1 h.2.2.1).1).trans h.2.2.1, h.2.2.2⟩
theorem OW.swap (h : OW w0 w v L p cs t) {p' : Nat} {cs' : Array Value} {t' : TypeId} (hp : w.heap[p']? = some (.cells cs' t' (0, 0))) (ht : t' ≠ 5) : OW w0 w v L p' cs' t' := ⟨h.1, h.2.1, hp, ht⟩
theorem OW.ne (h : OW w0 w v L p cs t) : v.ownBlock ≠ some p := fun e => by
  obtain ⟨h1, h2, h3, h4⟩ := h
  rcases h2.2 with ⟨rfl, -⟩ | ⟨g, cap, cur, rfl, -, hg, -⟩
  · cases e
  · obtain rfl : g = p := by injection e
    rw [hg] at h3
    injection h3 with h3
    injection h3 with _ h3
    exact h4 h3.symm
theorem OW.grow (h : OW w0 w v L p cs t) (hg : w.grownBy w' v.ownBlock) : Ext w0 w' ∧ w'.heap[p]? = some (.cells cs t (0, 0)) :=
  ⟨h.1.trans' (FR.of_grown hg (f := ob v) (fun k e => by rw [ob_some (by first | exact e | exact e.symm)]; exact Nat.one_pos)) (fun a ha => if_neg (fun e => by have := own_freshB h.2.1 _ e; omega)),
    (hg.block p (Array.getElem?_eq_some_iff.1 h.2.2.1).1 (fun e => h.ne (by first | exact e | exact e.symm))).trans h.2.2.1⟩
theorem OW.app (h : OW w0 w v L p cs t) {A : Option Addr} {c : Nat} (hr : Rd w 1 A M.length c (bys M)) (hl : L.length ≤ 10000000) (hm : M.length ≤ 10000000) :
    ∃ A' n' c' w', Hid (n' = (L ++ M).length) ∧ (Builtin.append_ #[43, 43] 43 #[v, .slice A M.length c]).run Try.prog w = .ok (.slice A' n' c') w' ∧ OW w0 w' (.slice A' n' c') (L ++ M) p cs t := by
  obtain ⟨i0, hi, hz0, hz1, hz2⟩ := info_parts infoU
  obtain ⟨v', w', ha, ho, hg, -⟩ := app_at w w0.heap.size 43 43 5 i0 _ 1 1 Try.underlying43 hi hz0 hz1 hz2 rfl (by decide) _ _ _ h.2.1 _ M.length c _ hr (bys_one M) (by unfold maxLen; omega) (by omega) h.1.size
  rw [← bys_append, ← List.length_append] at ho
  obtain ⟨A', c', rfl, -⟩ := own_form ho
  exact ⟨A', _, c', w', rfl, ha, (h.grow hg).1, ho, (h.grow hg).2, h.2.2.2⟩
theorem strCells_txt (s : ByteArray) : Lib.strCells s = bys (txt s) := by simp [Lib.strCells, bys, txt]
theorem OW.appS (h : OW w0 w v L p cs t) (s : ByteArray) (hl : L.length ≤ 10000000) (hm : s.size ≤ 10000000) :
    ∃ A' n' c' w', Hid (n' = (L ++ txt s).length) ∧ (Builtin.append_ #[43, 9] 43 #[v, .string s]).run Try.prog w = .ok (.slice A' n' c') w' ∧ OW w0 w' (.slice A' n' c') (L ++ txt s) p cs t := by
  obtain ⟨i0, hi, hz0, hz1, hz2⟩ := info_parts infoU
  obtain ⟨v', w', ha, ho, hg, -⟩ := Lib.run_append_own_string (P := Try.prog) w w0.heap.size 43 9 43 5 i0 Try.underlying43 Try.underlying9 hi hz0 hz1 hz2 _ _ _ h.2.1 s (by unfold maxLen; omega) (by omega) h.1.size
  rw [strCells_txt, ← bys_append, ← txt_len, ← List.length_append] at ho
  obtain ⟨A', c', rfl, -⟩ := own_form ho
  exact ⟨A', _, c', w', rfl, ha, (h.grow hg).1, ho, (h.grow hg).2, h.2.2.2⟩
theorem OW.rd (h : OW w0 w v L p cs t) (hb : isB L) : ∃ A c, v = .slice A L.length c ∧ RdB w A L.length c L := by
  obtain ⟨A, c, e, hr⟩ := own_rd h.2.1
  exact ⟨A, c, e, hr, hb⟩
end
theorem rd_new2 (w : World) (a b : Value) : Rd (w.alloc (.cells #[a, b] 5)) 1 (some ⟨w.heap.size, 0, none⟩) 2 2 [a, b] := by
  have hnew := heap_alloc_new w (.cells #[a, b] 5)
  exact ⟨rfl, Nat.le_refl _, by decide, fun _ => ⟨_, rfl, fun j u hu => by
    rw [lit_add, Nat.zero_add, Lib.cell_of_heap hnew]
    simpa using hu⟩⟩
/-- It returns the bytes with more behind them. -/
def GiveOW (w0 : World) (L : List Int) (p : Nat) (cs : Array Value) (t : TypeId) (e : Ending) (w' : World) : Prop := ∃ A n c, e = .returned (.slice A n c) ∧ Hid (n = L.length) ∧ OW w0 w' (.slice A n c) L p cs t
set_option maxRecDepth 100000 in
set_option maxHeartbeats 4000000 in
theorem ptwo_any (w0 w : World) (v : Value) (L : List Int) (z : Int) (p : Nat) (cs : Array Value) (t : TypeId) (h : OW w0 w v L p cs t) (hl : L.length ≤ 9000000) (hz : 0 ≤ z ∧ z ≤ 65535) : Calls Try.prog 57 #[v, .int .i64 z] w (GiveOW w0 (L ++ twoL z) p cs t) := by
  have hw1 : IntKind.u8.wrap z = z % 256 := by rw [IntKind.wrap_u8]
  have hw2 : IntKind.u8.wrap (z / 256) = z / 256 := by rw [IntKind.wrap_u8]; omega
  have hx := (Ext.refl w).alloc_right (.cells #[.int .u8 (z % 256), .int .u8 (z / 256)] 5)
  obtain ⟨A', n', c', w', hn, happ, hO⟩ := (h.up hx).app (M := twoL z) (rd_new2 w _ _) (by omega) (by simp [twoL])
  obtain ⟨Av, cv, rfl, -⟩ := own_form h.2.1
  replace happ := hid happ
  replace hO := hid hO
  clear hx h
  go_enter Try.func57, Try.ntmps57
  go_wp2_with (at_builtin; refine wpList_app rfl _ _ 43 43 rfl _ _ rfl rfl _ happ.out ?_)
  go_wp2
  go_ret
  exact ⟨A', n', c', rfl, hn, hO.out⟩
set_option maxRecDepth 100000 in
set_option maxHeartbeats 4000000 in
theorem rtwo2_any (z : Int) (w : World) (hz : 0 ≤ z ∧ z ≤ 65535) : Calls Try.prog 58 #[.int .i64 z] w (fun e w' => e = .returned (.slice (some ⟨w.heap.size, 0, none⟩) 2 2) ∧ w' = w.alloc (.cells #[.int .u8 (z % 256), .int .u8 (z / 256)] 5)) := by
  have hw1 : IntKind.u8.wrap (z % 256) = z % 256 := by rw [IntKind.wrap_u8]; omega
  have hw2 : IntKind.u8.wrap (z / 256) = z / 256 := by rw [IntKind.wrap_u8]; omega
  have hw3 := IntWalk.i64_in (z % 256) (by omega)
  have hw4 := IntWalk.i64_in (z / 256) (by omega)
  have ht1 : Int.tmod z 256 = z % 256 := Int.tmod_eq_emod_of_nonneg hz.1
  have ht2 : Int.tdiv z 256 = z / 256 := Int.tdiv_eq_ediv_of_nonneg hz.1
  go_enter Try.func58, Try.ntmps58
  go_wp2
  go_ret
  exact ⟨rfl, rfl⟩
end Go.Proofs.Ytpijfiaecicpfaa
