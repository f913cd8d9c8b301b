/-
  Memo files, plainly: which lists of entries are files; what putting and freeing make of them. No program in sight.
-/
import Derived.Test.YtcgjhloiokpicaaMg
namespace Go.Proofs.Ytcgjhloiokpicaa
open Go.RowKit
set_option linter.unusedVariables false
set_option linter.unusedSimpArgs false
/-- An entry by itself. -/
def okE (size : Int) (x : En) : Prop := 1 ≤ x.blocks ∧ ((x.kind = 0 ∧ x.s = ⟨#[]⟩) ∨ (x.kind = 1 ∧ x.s.size ≤ 2048 ∧ x.blocks = needS size x.s.size))
/-- Entries that lie from block b (behind a free one, if f) to block e (the last one is free, if f'). -/
def Run (size : Int) : Int → Bool → List En → Int → Bool → Prop
  | b, f, [], e, f' => b = e ∧ f = f'
  | b, f, x :: l, e, f' => x.block = b ∧ okE size x ∧ (f = true → x.kind ≠ 0) ∧ Run size (b + x.blocks) (x.kind == 0) l e f'
def Good (size : Int) (l : List En) : Prop := ∃ e, Run size 1 false l e false ∧ e ≤ 4096
section
variable {size : Int}
theorem run_append : ∀ {a c : List En} {b e : Int} {f f' : Bool}, Run size b f (a ++ c) e f' ↔ ∃ m fm, Run size b f a m fm ∧ Run size m fm c e f'
  | [], c, b, e, f, f' => by
    constructor
    · intro h; exact ⟨b, f, ⟨rfl, rfl⟩, h⟩
    · rintro ⟨m, fm, ⟨rfl, rfl⟩, h⟩; exact h
  | x :: a, c, b, e, f, f' => by
    show (x.block = b ∧ okE size x ∧ (f = true → x.kind ≠ 0) ∧ Run size _ _ (a ++ c) e f') ↔ _
    rw [run_append (a := a)]
    constructor
    · rintro ⟨h1, h2, h3, m, fm, h4, h5⟩; exact ⟨m, fm, ⟨h1, h2, h3, h4⟩, h5⟩
    · rintro ⟨m, fm, ⟨h1, h2, h3, h4⟩, h5⟩; exact ⟨h1, h2, h3, m, fm, h4, h5⟩
theorem run_le : ∀ {l : List En} {b e : Int} {f f' : Bool}, Run size b f l e f' → b + l.length ≤ e
  | [], b, e, f, f', h => by have h1 := h.1; simp; omega
  | x :: l, b, e, f, f', ⟨_, h2, _, h4⟩ => by
    have := run_le h4
    have := h2.1
    simp only [List.length_cons]
    push_cast
    omega
theorem run_false {l : List En} {b e : Int} {f' : Bool} (h : Run size b true l e f') (hl : l ≠ []) : Run size b false l e f' := by
  cases l with
  | nil => exact absurd rfl hl
  | cons x l => exact ⟨h.1, h.2.1, fun e => (by cases e), h.2.2.2⟩
theorem run_true_ne {l : List En} {b e : Int} (h : Run size b true l e false) : l ≠ [] := by
  rintro rfl
  have := h.2
  cases this
/-- The end of a run is known by its last one. -/
theorem run_last {l : List En} {x : En} {b e : Int} {f f' : Bool} (h : Run size b f (l ++ [x]) e f') : e = x.block + x.blocks ∧ f' = (x.kind == 0) := by
  obtain ⟨m, fm, _, h1, _, _, h4, h5⟩ := run_append.1 h
  exact ⟨by rw [← h4, h1], h5.symm⟩
theorem run_fm {l : List En} {b e : Int} {f' : Bool} (h : Run size b false l e f') : f' = true → ∃ l' z, l = l' ++ [z] ∧ z.kind = 0 := by
  intro hf
  rcases List.eq_nil_or_concat l with rfl | ⟨l', z, rfl⟩
  · have := h.2; rw [hf] at this; cases this
  · rw [List.concat_eq_append] at h ⊢
    have := (run_last h).2
    exact ⟨l', z, rfl, by rw [hf] at this; simpa using this.symm⟩
theorem split_at {l : List En} {i : Nat} (hi : i < l.length) : l = l.take i ++ (eth l i :: l.drop (i + 1)) := by
  rw [eth_get hi]
  rw [← List.drop_eq_getElem_cons hi, List.take_append_drop]
theorem good_at {l : List En} (h : Good size l) {i : Nat} (hi : i < l.length) : ∃ e fm, Run size 1 false (l.take i) (eth l i).block fm ∧ okE size (eth l i) ∧ (fm = true → (eth l i).kind ≠ 0) ∧ Run size ((eth l i).block + (eth l i).blocks) ((eth l i).kind == 0) (l.drop (i + 1)) e false ∧ e ≤ 4096 := by
  obtain ⟨e, h1, h2⟩ := h
  rw [split_at hi] at h1
  obtain ⟨m, fm, h3, h4, h5, h6, h7⟩ := run_append.1 h1
  subst h4
  exact ⟨e, fm, h3, h5, h6, h7, h2⟩
/-- What put and drop ask of a file. -/
theorem good_facts {l : List En} (h : Good size l) : l.length ≤ 4095 ∧ (∀ k, k < l.length → 1 ≤ (eth l k).block ∧ 1 ≤ (eth l k).blocks ∧ (eth l k).block + (eth l k).blocks ≤ 4096) ∧ (∀ k, k < l.length → (eth l k).kind = 0 → k + 1 < l.length) ∧ (1 ≤ endI l ∧ endI l ≤ 4096) := by
  refine ⟨?_, fun k hk => ?_, fun k hk h0 => ?_, ?_⟩
  · obtain ⟨e, h1, h2⟩ := h
    have := run_le h1
    omega
  · obtain ⟨e, fm, h1, h2, _, h3, h4⟩ := good_at h hk
    have e1 := run_le h1
    have e2 := run_le h3
    have := h2.1
    omega
  · obtain ⟨e, fm, h1, h2, _, h3, h4⟩ := good_at h hk
    rw [h0] at h3
    have := run_true_ne h3
    have hl : 0 < (l.drop (k + 1)).length := List.length_pos_iff.2 this
    rw [List.length_drop] at hl
    omega
  · rcases List.eq_nil_or_concat l with rfl | ⟨l', z, rfl⟩
    · exact ⟨by decide, by decide⟩
    · rw [List.concat_eq_append] at h ⊢
      obtain ⟨e, h1, h2⟩ := h
      have h3 := run_last h1
      have h4 := run_le h1
      have he : endI (l' ++ [z]) = e := by
        unfold endI
        rw [List.getLast?_append]
        simp only [List.getLast?_singleton, Option.some_or]
        have hw : wrap64 (z.block + z.blocks) = z.block + z.blocks := by unfold wrap64; omega
        rw [hw, h3.1]
      rw [he]
      simp only [List.length_append, List.length_singleton] at h4
      push_cast at h4
      omega
theorem end_run {l : List En} {e : Int} (h : Run size 1 false l e false) (he : e ≤ 4096) : endI l = e := by
  rcases List.eq_nil_or_concat l with rfl | ⟨l', z, rfl⟩
  · exact h.1
  · rw [List.concat_eq_append] at h ⊢
    have h3 := run_last h
    have h4 := run_le h
    unfold endI
    rw [List.getLast?_append]
    simp only [List.getLast?_singleton, Option.some_or]
    simp only [List.length_append, List.length_singleton] at h4
    push_cast at h4
    have hw : wrap64 (z.block + z.blocks) = z.block + z.blocks := by unfold wrap64; omega
    rw [hw, h3.1]
/-- Putting keeps a file one. -/
theorem good_put {l : List En} (h : Good size l) (hs : 16 ≤ size ∧ size ≤ 256) {s : ByteArray} (hz : s.size ≤ 2048) : Good size (putL l (needS size s.size) s) := by
  have hn := need_rng hs (n := s.size) (by omega) (by omega)
  unfold putL
  by_cases h1 : putN l (needS size s.size) < l.length
  · rw [if_pos h1]
    have hf : fitE (needS size s.size) (eth l (putN l (needS size s.size))) = true := by
      rw [eth_get h1]
      exact List.findIdx_getElem (w := h1)
    generalize putN l (needS size s.size) = i at *
    obtain ⟨e, fm, g1, g2, g3, g4, g5⟩ := good_at h h1
    simp only [fitE, Bool.and_eq_true, beq_iff_eq, decide_eq_true_eq] at hf
    have hfm : fm = false := by
      cases fm with
      | false => rfl
      | true => exact absurd hf.1 (g3 rfl)
    subst hfm
    rw [hf.1] at g4
    refine ⟨e, ?_, g5⟩
    unfold putAt newE
    have hok : okE size ⟨(eth l i).block, needS size s.size, 1, s⟩ := ⟨hn.1, .inr ⟨rfl, hz, rfl⟩⟩
    by_cases hlt : needS size s.size < (eth l i).blocks
    · rw [if_pos hlt]
      refine run_append.2 ⟨_, _, g1, rfl, hok, fun e => (by cases e), rfl, ⟨by show (1 : Int) ≤ (eth l i).blocks - needS size s.size; omega, .inl ⟨rfl, rfl⟩⟩, fun e => (by cases e), ?_⟩
      have : (eth l i).block + needS size s.size + ((eth l i).blocks - needS size s.size) = (eth l i).block + (eth l i).blocks := by omega
      show Run size ((eth l i).block + needS size s.size + ((eth l i).blocks - needS size s.size)) true _ e false
      rw [this]
      exact g4
    · rw [if_neg hlt]
      refine run_append.2 ⟨_, _, g1, rfl, hok, fun e => (by cases e), ?_⟩
      have : (eth l i).blocks = needS size s.size := by omega
      rw [this] at g4
      exact run_false g4 (run_true_ne g4)
  · rw [if_neg h1]
    by_cases h2 : endI l + needS size s.size ≤ 4096
    · rw [if_pos h2]
      obtain ⟨e, g1, g2⟩ := h
      have he := end_run g1 g2
      refine ⟨e + needS size s.size, run_append.2 ⟨e, false, g1, by rw [he], ⟨hn.1, .inr ⟨rfl, hz, rfl⟩⟩, fun e => (by cases e), rfl, rfl⟩, by omega⟩
    · rw [if_neg h2]
      exact h
/-! ### Freeing -/
theorem eth_mid (pre post : List En) (x : En) : eth (pre ++ x :: post) pre.length = x := by simp [eth, List.getD]
theorem eth_next (pre post : List En) (x z : En) : eth (pre ++ x :: z :: post) (pre.length + 1) = z := by simp [eth, List.getD]
theorem set_mid (pre post : List En) (x y : En) : (pre ++ x :: post).set pre.length y = pre ++ y :: post := by simp
theorem erase_mid (pre post : List En) (x : En) : (pre ++ x :: post).eraseIdx pre.length = pre ++ post := by
  rw [List.eraseIdx_append_of_length_le (Nat.le_refl _), Nat.sub_self, List.eraseIdx_cons_zero]
theorem erase_next (pre post : List En) (x z : En) : (pre ++ x :: z :: post).eraseIdx (pre.length + 1) = pre ++ x :: post := by
  rw [List.eraseIdx_append_of_length_le (by omega), show pre.length + 1 - pre.length = 1 by omega, List.eraseIdx_cons_succ, List.eraseIdx_cons_zero]
/-- The entry behind joins. -/
def nxt (x : En) : List En → En × List En
  | z :: p => if z.kind = 0 then (grow x z.blocks, p) else (x, z :: p)
  | [] => (x, [])
theorem nxt_cons (x z : En) (p : List En) : nxt x (z :: p) = if z.kind = 0 then (grow x z.blocks, p) else (x, z :: p) := rfl
theorem dr2_mid (pre post : List En) (x : En) : dr2 (pre ++ x :: post) pre.length = pre ++ (nxt x post).1 :: (nxt x post).2 := by
  unfold dr2
  cases post with
  | nil => rw [if_neg (fun h => by have := h.1; simp at this)]; rfl
  | cons z p =>
    rw [eth_next, eth_mid, set_mid, erase_next]
    rw [nxt_cons]
    by_cases hz : z.kind = 0
    · rw [if_pos ⟨by simp, hz⟩, if_pos hz]
    · rw [if_neg (fun h => hz h.2), if_neg hz]
/-- The entry ahead joins. -/
def prv (pre : List En) (x : En) : List En × En :=
  match pre.getLast? with
  | some z => if z.kind = 0 then (pre.dropLast, grow z x.blocks) else (pre, x)
  | none => (pre, x)
theorem prv_snoc (pre : List En) (z x : En) : prv (pre ++ [z]) x = if z.kind = 0 then (pre, grow z x.blocks) else (pre ++ [z], x) := by
  unfold prv
  rw [List.getLast?_append]
  simp
theorem dr3_mid (pre post : List En) (x : En) : dr3 (pre ++ x :: post) pre.length = (prv pre x).1 ++ (prv pre x).2 :: post := by
  unfold dr3
  rcases List.eq_nil_or_concat pre with rfl | ⟨a, z, rfl⟩
  · rw [if_neg (fun h => by have := h.1; simp at this)]; rfl
  · rw [List.concat_eq_append, prv_snoc, eth_mid, List.length_append, List.length_singleton, Nat.add_sub_cancel]
    have e1 : a ++ [z] ++ x :: post = a ++ z :: x :: post := by simp
    rw [e1, eth_mid, set_mid, erase_next]
    by_cases hz : z.kind = 0
    · rw [if_pos ⟨by omega, hz⟩, if_pos hz]
    · rw [if_neg (fun h => hz h.2), if_neg hz, ← e1]
theorem dr4_snoc (a : List En) (z : En) : dr4 (a ++ [z]) = if z.kind = 0 then a else a ++ [z] := by
  unfold dr4
  rw [List.length_append, List.length_singleton, Nat.add_sub_cancel, eth_mid, List.take_left]
/-- The last one of a list is free. -/
def lastF (l : List En) : Bool := match l.getLast? with | some z => z.kind == 0 | none => false
theorem lastF_snoc (a : List En) (z : En) : lastF (a ++ [z]) = (z.kind == 0) := by unfold lastF; rw [List.getLast?_append]; rfl
theorem dr4_ok {a p : List En} {z : En} (hz : z.kind = 0) (hp : lastF p = false) : dr4 (a ++ z :: p) = if p = [] then a else a ++ z :: p := by
  rcases List.eq_nil_or_concat p with rfl | ⟨q, y, rfl⟩
  · rw [dr4_snoc, if_pos hz, if_pos rfl]
  · rw [List.concat_eq_append] at hp ⊢
    rw [lastF_snoc] at hp
    have hy : y.kind ≠ 0 := by simpa using hp
    rw [show a ++ z :: (q ++ [y]) = (a ++ z :: q) ++ [y] by simp, dr4_snoc, if_neg hy, if_neg (by simp)]
theorem nxt_kind (x : En) (post : List En) : (nxt x post).1.kind = x.kind := by
  cases post with
  | nil => rfl
  | cons z p =>
    rw [nxt_cons]
    by_cases hz : z.kind = 0
    · rw [if_pos hz]; rfl
    · rw [if_neg hz]
theorem nxt_last (x : En) (post : List En) (h : lastF post = false) : lastF (nxt x post).2 = false := by
  cases post with
  | nil => rfl
  | cons z p =>
    rw [nxt_cons]
    by_cases hz : z.kind = 0
    · rw [if_pos hz]
      rcases List.eq_nil_or_concat p with rfl | ⟨q, y, rfl⟩
      · rfl
      · rw [List.concat_eq_append] at h ⊢
        rw [show z :: (q ++ [y]) = (z :: q) ++ [y] from rfl, lastF_snoc] at h
        rw [lastF_snoc]
        exact h
    · rw [if_neg hz]; exact h
theorem prv_kind (pre : List En) (x : En) (hx : x.kind = 0) : (prv pre x).2.kind = 0 := by
  rcases List.eq_nil_or_concat pre with rfl | ⟨a, z, rfl⟩
  · exact hx
  · rw [List.concat_eq_append, prv_snoc]
    by_cases hz : z.kind = 0
    · rw [if_pos hz]; exact hz
    · rw [if_neg hz]; exact hx
theorem dropL_mid (pre post : List En) (x : En) (hp : lastF post = false) :
    dropL (pre ++ x :: post) pre.length = if (nxt (fre x) post).2 = [] then (prv pre (nxt (fre x) post).1).1 else (prv pre (nxt (fre x) post).1).1 ++ (prv pre (nxt (fre x) post).1).2 :: (nxt (fre x) post).2 := by
  unfold dropL dr1
  rw [eth_mid, set_mid, dr2_mid, dr3_mid, dr4_ok (prv_kind _ _ (by rw [nxt_kind]; rfl)) (nxt_last _ _ hp)]
theorem run_lastF : ∀ {l : List En} {b e : Int} {f f' : Bool}, Run size b f l e f' → l ≠ [] → lastF l = f' := by
  intro l b e f f' h hl
  rcases List.eq_nil_or_concat l with rfl | ⟨q, y, rfl⟩
  · exact absurd rfl hl
  · rw [List.concat_eq_append] at h ⊢
    rw [lastF_snoc, (run_last h).2]
theorem run_lastF' {l : List En} {b e : Int} {f' : Bool} (h : Run size b false l e f') : lastF l = f' := by
  rcases List.eq_nil_or_concat l with rfl | ⟨q, y, rfl⟩
  · exact h.2
  · rw [List.concat_eq_append] at h ⊢
    rw [lastF_snoc, (run_last h).2]
theorem run_free_cons {z : En} {p : List En} {b e : Int} {f f' : Bool} (h : Run size b f (z :: p) e f') (hz : z.kind = 0) : z.block = b ∧ 1 ≤ z.blocks ∧ z.s = ⟨#[]⟩ ∧ f = false ∧ Run size (b + z.blocks) true p e f' := by
  obtain ⟨h1, h2, h3, h4⟩ := h
  rw [hz] at h4
  refine ⟨h1, h2.1, ?_, ?_, h4⟩
  · rcases h2.2 with h5 | h5
    · exact h5.2
    · rw [hz] at h5; exact absurd h5.1 (by decide)
  · cases f with
    | false => rfl
    | true => exact absurd hz (h3 rfl)
theorem run_true_cons {z : En} {p : List En} {b e : Int} {f' : Bool} (h : Run size b false (z :: p) e f') (hz : z.kind ≠ 0) : Run size b true (z :: p) e f' := ⟨h.1, h.2.1, fun _ => hz, h.2.2.2⟩
/-- What lies behind a freed entry. -/
theorem nxt_run {x : En} {post : List En} {e : Int} (h : Run size (x.block + x.blocks) false post e false) (hb : 1 ≤ x.blocks) :
    (nxt (fre x) post).1.block = x.block ∧ 1 ≤ (nxt (fre x) post).1.blocks ∧ (nxt (fre x) post).1.s = ⟨#[]⟩ ∧ ((nxt (fre x) post).2 = [] ∨ Run size (x.block + (nxt (fre x) post).1.blocks) true (nxt (fre x) post).2 e false) ∧ ((nxt (fre x) post).2 = [] → x.block + x.blocks ≤ e) := by
  have hle := run_le h
  cases post with
  | nil => exact ⟨rfl, hb, rfl, .inl rfl, fun _ => by simpa using hle⟩
  | cons z p =>
    rw [nxt_cons]
    by_cases hz : z.kind = 0
    · rw [if_pos hz]
      obtain ⟨h1, h2, h3, h4, h5⟩ := run_free_cons h hz
      refine ⟨rfl, by show 1 ≤ x.blocks + z.blocks; omega, rfl, .inr ?_, fun _ => by simp at hle; omega⟩
      show Run size (x.block + (x.blocks + z.blocks)) true p e false
      rw [← Int.add_assoc]
      exact h5
    · rw [if_neg hz]
      exact ⟨rfl, hb, rfl, .inr (run_true_cons h hz), fun h => by cases h⟩
theorem good_drop {l : List En} (h : Good size l) {i : Nat} (hi : i < l.length) (hk : (eth l i).kind = 1) : Good size (dropL l i) := by
  obtain ⟨e, fm, h1, h2, h3, h4, h5⟩ := good_at h hi
  rw [hk] at h4
  have hpl : (l.take i).length = i := by rw [List.length_take]; omega
  have hd := dropL_mid (l.take i) (l.drop (i + 1)) (eth l i) (run_lastF' h4)
  rw [hpl, ← split_at hi] at hd
  rw [hd]
  obtain ⟨n1, n2, n3, n4, n5⟩ := nxt_run h4 h2.1
  have hyk := nxt_kind (fre (eth l i)) (l.drop (i + 1))
  generalize nxt (fre (eth l i)) (l.drop (i + 1)) = N at *
  have hble := run_le h1
  generalize l.take i = pre at *
  generalize (eth l i).block = m at *
  have hN : ¬ N.2 = [] → Run size (m + N.1.blocks) true N.2 e false := fun hne => n4.resolve_left hne
  rcases List.eq_nil_or_concat pre with rfl | ⟨a, z, rfl⟩
  · have hm : (1 : Int) = m := h1.1
    show Good size (if N.2 = [] then [] else [] ++ N.1 :: N.2)
    by_cases hne : N.2 = []
    · rw [if_pos hne]; exact ⟨1, ⟨rfl, rfl⟩, by decide⟩
    · rw [if_neg hne]
      refine ⟨e, ⟨by rw [n1, hm], ⟨n2, .inl ⟨hyk, n3⟩⟩, fun h => (by cases h), ?_⟩, h5⟩
      rw [hyk, hm]
      exact hN hne
  · rw [List.concat_eq_append] at *
    rw [prv_snoc]
    obtain ⟨mz, fz, r1, r2, r3, r4, r5, r6⟩ := run_append.1 h1
    have r5 : mz + z.blocks = m := r5
    by_cases hz : z.kind = 0
    · rw [if_pos hz]
      have hfz : fz = false := by
        cases fz with
        | false => rfl
        | true => exact absurd hz (r4 rfl)
      subst hfz
      have hzs : z.s = ⟨#[]⟩ := by
        rcases r3.2 with h | h
        · exact h.2
        · rw [hz] at h; exact absurd h.1 (by decide)
      have hzb := r3.1
      show Good size (if N.2 = [] then a else a ++ grow z N.1.blocks :: N.2)
      by_cases hne : N.2 = []
      · rw [if_pos hne]
        have := n5 hne
        exact ⟨mz, r1, by have := h2.1; omega⟩
      · rw [if_neg hne]
        refine ⟨e, run_append.2 ⟨mz, false, r1, r2, ⟨by show 1 ≤ z.blocks + N.1.blocks; omega, .inl ⟨hz, hzs⟩⟩, fun h => (by cases h), ?_⟩, h5⟩
        show Run size (mz + (z.blocks + N.1.blocks)) (z.kind == 0) N.2 e false
        rw [hz, ← Int.add_assoc, r5]
        exact hN hne
    · rw [if_neg hz]
      have hfm : fm = false := by rw [← r6]; simpa using hz
      subst hfm
      show Good size (if N.2 = [] then a ++ [z] else (a ++ [z]) ++ N.1 :: N.2)
      by_cases hne : N.2 = []
      · rw [if_pos hne]
        have := n5 hne
        exact ⟨m, h1, by have := h2.1; omega⟩
      · rw [if_neg hne]
        refine ⟨e, run_append.2 ⟨m, false, h1, n1, ⟨n2, .inl ⟨hyk, n3⟩⟩, fun h => (by cases h), ?_⟩, h5⟩
        rw [hyk]
        exact hN hne
end
end Go.Proofs.Ytcgjhloiokpicaa
