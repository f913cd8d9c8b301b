/-
  Two rows that grow side by side, of texts and of numbers.
-/
import Derived.Test.YtpijfiaecicpfaaBi
import Derived.Maps.AppendAt
namespace Go.Proofs.Ytpijfiaecicpfaa
open Go.RowKit Go.Shelf
set_option linter.unusedVariables false
set_option linter.unusedSimpArgs false
/-- append onto an owned row, whatever slice is behind: the run, and where the new row lies. -/
theorem app_at {P : Program} (w : World) (base : Nat) (t ty e : TypeId) (i : TypeInfo) (z : Value) (size bytes : Nat) (ht : P.underlying t = some (.slice e)) (hi : P.info? e = some i) (hz : i.zero = some z)
    (hsize : i.size = size) (hby : i.bytes = bytes) (hzs : z.cells.size = size) (hsz : 0 < size) (v : Value) (n : Nat) (xs : List Value) (hown : w.ownsRow base e size v n xs)
    (A : Option Addr) (m c : Nat) (es : List Value) (hr : Rd w size A m c es) (h1 : ∀ u ∈ es, u.oneCell' = true) (h63 : n + m ≤ maxLen) (hbytes : (n + m) * bytes ≤ 140737488355328) (hbase : base ≤ w.heap.size) :
    ∃ v' w', (Builtin.append_ #[t, t] ty #[v, .slice A m c]).run P w = .ok v' w' ∧ w'.ownsRow base e size v' (n + m) (xs ++ es) ∧ w.grownBy w' v.ownBlock ∧ (v'.ownBlock = v.ownBlock ∨ ∀ k, v'.ownBlock = some k → w.heap.size ≤ k) := by
  rcases A with _ | ad
  · have hm : m = 0 := by
      rcases Nat.eq_zero_or_pos m with h0 | h0
      · exact h0
      · obtain ⟨ad, h, _⟩ := hr.2.2.2 h0
        cases h
    subst hm
    have hn : es = [] := List.eq_nil_of_length_eq_zero (by simpa using hr.1)
    subst hn
    exact ⟨v, w, run_append_nilsrc (P := P) w base t ty e i size ht hi v n xs hown c, by simpa using hown, World.grownBy.refl w _, .inl rfl⟩
  · obtain ⟨v', w', hrun, h2, h3, _, h5⟩ := run_append_own_at (P := P) w base t ty e i z size bytes ht hi hz hsize hby hzs hsz v n xs hown ad m c es hr.1 (by
      intro j u hu
      rcases Nat.eq_zero_or_pos m with h0 | h0
      · subst h0
        have hn : es = [] := List.eq_nil_of_length_eq_zero (by simpa using hr.1)
        subst hn
        simp at hu
      · obtain ⟨ad', e', hc⟩ := hr.2.2.2 h0
        injection e' with e'
        subst e'
        exact hc j u hu) h1 h63 hbytes hbase
    refine ⟨v', w', hrun, h2, h3, ?_⟩
    rcases h5 with h5 | h5
    · exact .inl h5
    · refine .inr fun k hk => ?_
      rw [h5] at hk
      injection hk with hk
      omega
/-- Keys and numbers that grow side by side, from a world on. -/
def KR (w1 w : World) (kv rv : Value) (ks : List ByteArray) (rs : List Int) : Prop := Two (fun _ => 0) w1 w w1.heap.size 9 3 1 1 kv rv ks.length rs.length (strv ks) (ints rs)
theorem KR.up {w1 w : World} {kv rv : Value} {ks : List ByteArray} {rs : List Int} (h : KR w1 w kv rv ks rs) : Ext w1 w := (Ext.refl w1).trans' h.fr (fun _ _ => rfl)
theorem KR.ext {w1 w w' : World} {kv rv : Value} {ks : List ByteArray} {rs : List Int} (h : KR w1 w kv rv ks rs) (hx : Ext w w') : KR w1 w' kv rv ks rs := Two.ext h hx
theorem KR.start (w1 : World) : KR w1 w1 (.slice none 0 0) (.slice none 0 0) [] [] := ⟨World.ownsRow_nil _ _ _ _, World.ownsRow_nil _ _ _ _, fun a => by show (if _ then 1 else 0) + (if _ then 1 else 0) ≤ 1; simp [Value.ownBlock], fun a _ => by show (if _ then 1 else 0) + (if _ then 1 else 0) ≤ 0; simp [Value.ownBlock], FR.of_ext (Ext.refl _)⟩
theorem strv_one (l : List ByteArray) : ∀ u ∈ strv l, u.oneCell' = true := fun u hu => by
  obtain ⟨x, _, rfl⟩ := List.mem_map.1 hu
  rfl
/-- What lies in another row's way stays. -/
def Kp (w w' : World) (v : Value) : Prop := w.heap.size ≤ w'.heap.size ∧ ∀ q, q < w.heap.size → ob v q = 0 → w'.heap[q]? = w.heap[q]?
theorem Kp.of {w w' : World} {v : Value} (hg : w.grownBy w' v.ownBlock) : Kp w w' v := ⟨hg.size, fun q hq h0 => hg.block q hq (fun e => ob_zero h0 e.symm)⟩
theorem Kp.rd {w w' : World} {v : Value} {k q n c : Nat} {es : List Value} (h : Kp w w' v) (hq : q < w.heap.size) (h0 : ob v q = 0) (hr : Rd w k (some ⟨q, 0, none⟩) n c es) : Rd w' k (some ⟨q, 0, none⟩) n c es :=
  ⟨hr.1, hr.2.1, hr.2.2.1, fun hn => by
    obtain ⟨ad, e, hc⟩ := hr.2.2.2 hn
    injection e with e
    subst e
    exact ⟨_, rfl, fun j u hu => (World.cell?_of_block (by rw [block_add]; exact h.2 q hq h0)).trans (hc j u hu)⟩⟩
theorem KR.appK {w1 w : World} {kv rv : Value} {ks : List ByteArray} {rs : List Int} (h : KR w1 w kv rv ks rs) {A : Option Addr} {m c : Nat} {es : List ByteArray} (hr : Rd w 1 A m c (strv es)) (hb : ks.length + m ≤ 1000000) (ty : TypeId) :
    ∃ A' c' w', (Builtin.append_ #[22, 22] ty #[kv, .slice A m c]).run Try.prog w = .ok (.slice A' (ks ++ es).length c') w' ∧ KR w1 w' (.slice A' (ks ++ es).length c') rv (ks ++ es) rs ∧ Kp w w' kv := by
  obtain ⟨i0, hi0, hz0, hz1, hz2⟩ := info_parts infoS
  have hm : es.length = m := by have := hr.1; rw [strv_len] at this; omega
  obtain ⟨v', w', h1, h2, h3, h4⟩ := app_at w w1.heap.size 22 ty 9 i0 _ 1 16 Try.underlying22 hi0 hz0 hz1 hz2 rfl (by decide) _ _ _ h.hk A m c _ hr (strv_one es) (by unfold maxLen; omega) (by omega) h.fr.2.2.2.1
  rw [← strv_app] at h2
  have hl : (ks ++ es).length = ks.length + m := by rw [List.length_append, hm]
  rw [← hl] at h2
  obtain ⟨A', c', rfl, -⟩ := own_form h2
  exact ⟨A', c', w', h1, Two.push h h3 h2 h4, Kp.of h3⟩
theorem KR.appR {w1 w : World} {kv rv : Value} {ks : List ByteArray} {rs : List Int} (h : KR w1 w kv rv ks rs) {A : Option Addr} {m c : Nat} {es : List Int} (hr : RdI w A m c es) (hb : rs.length + m ≤ 1000000) (ty : TypeId) :
    ∃ A' c' w', (Builtin.append_ #[23, 23] ty #[rv, .slice A m c]).run Try.prog w = .ok (.slice A' (rs ++ es).length c') w' ∧ KR w1 w' kv (.slice A' (rs ++ es).length c') ks (rs ++ es) ∧ Kp w w' rv := by
  obtain ⟨i0, hi0, hz0, hz1, hz2⟩ := info_parts infoI
  have hm : es.length = m := hr.len
  obtain ⟨v', w', h1, h2, h3, h4⟩ := app_at w w1.heap.size 23 ty 3 i0 _ 1 8 Try.underlying23 hi0 hz0 hz1 hz2 rfl (by decide) _ _ _ h.hr A m c _ hr (ints_one es) (by unfold maxLen; omega) (by omega) h.fr.2.2.2.1
  rw [← ints_append] at h2
  have hl : (rs ++ es).length = rs.length + m := by rw [List.length_append, hm]
  rw [← hl] at h2
  obtain ⟨A', c', rfl, -⟩ := own_form h2
  exact ⟨A', c', w', h1, (Two.push (Two.swap h) h3 h2 h4).swap, Kp.of h3⟩
theorem KR.keep {w1 w9 w w' : World} {kv rv : Value} {ks : List ByteArray} {rs : List Int} (h : KR w1 w9 kv rv ks rs) (hk : Kp w w' kv) {A : Option Addr} {k n c : Nat} {es : List Value} (hf : Fr w9.heap.size A) (hr : Rd w k A n c es) : Rd w' k A n c es :=
  ⟨hr.1, hr.2.1, hr.2.2.1, fun hn => by
    obtain ⟨ad, e, hc⟩ := hr.2.2.2 hn
    refine ⟨ad, e, fun j u hu => ?_⟩
    have h1 := hc j u hu
    have h2 := World.block_lt_of_cell? _ _ h1
    rw [block_add] at h2
    exact (World.cell?_of_block (by rw [block_add]; exact hk.2 ad.block h2 (own_bound h.hk (hf ad e)))).trans h1⟩
theorem rd_new1 (w : World) (u : Value) (t : TypeId) : Rd (w.alloc (.cells #[u] t)) 1 (some ⟨w.heap.size, 0, none⟩) 1 1 [u] := ⟨rfl, Nat.le_refl _, by decide, fun _ => ⟨_, rfl, fun j v hv => by
  rw [lit_add, Nat.zero_add, Lib.cell_of_heap (heap_alloc_new w _)]
  simpa using hv⟩⟩
/-- It returns the keys and numbers of entries. -/
def GiveE (L : List Te) (w : World) (e : Ending) (w' : World) : Prop := ∃ A1 c1 A2 c2, e = .returned (.tuple #[.slice A1 L.length c1, .slice A2 L.length c2]) ∧ Rd w' 1 A1 L.length c1 (strv (L.map Te.key)) ∧ RdI w' A2 L.length c2 (L.map Te.no) ∧ Ext w w' ∧ Fr w.heap.size A1 ∧ Fr w.heap.size A2
theorem KR.give {w w1 w' : World} {kv rv : Value} {L : List Te} (h : KR w1 w' kv rv (L.map Te.key) (L.map Te.no)) (hx : Ext w w1) : GiveE L w (.returned (.tuple #[kv, rv])) w' := by
  obtain ⟨A1, c1, rfl, h1⟩ := own_rd h.hk
  obtain ⟨A2, c2, rfl, h2⟩ := own_rd h.hr
  have f1 := (own_fresh h.hk).mono hx.size
  have f2 := (own_fresh h.hr).mono hx.size
  have hu := h.up
  have e1 : (L.map Te.key).length = L.length := List.length_map _
  have e2 : (L.map Te.no).length = L.length := List.length_map _
  rw [e1] at h1 ⊢
  rw [e2] at h2 ⊢
  exact ⟨A1, c1, A2, c2, rfl, h1, h2, hx.trans hu, f1, f2⟩
end Go.Proofs.Ytpijfiaecicpfaa
