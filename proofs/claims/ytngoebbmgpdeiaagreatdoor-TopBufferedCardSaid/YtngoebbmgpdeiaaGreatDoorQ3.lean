/-
  Maps of the model, entry by entry: what a look-up, a store, a deletion and a range do. Bound to no program; What is known of the kinds of fields; names and fields; the length of a record; Which fields are those of a table.
-/
import Derived.Test.YtngoebbmgpdeiaaGreatDoorQ1
import Derived.Maps.RangeRun
import Derived.MapKept
import Derived.Test.YtngoebbmgpdeiaaGreatDoorQ2
set_option maxRecDepth 100000
set_option maxHeartbeats 40000000
set_option linter.unusedVariables false
set_option linter.unusedSimpArgs false
namespace Go.Proofs.YtngoebbmgpdeiaaGreatDoor
open Go.RowKit Go.ChangeMaps
structure KeyEnc (P : Program) (K : TypeId) (κ : Type) [DecidableEq κ] where
  enc : κ → Value
  kind : TypeDesc
  under : P.underlying K = some kind
  same : ∀ a b, Instr.sameNow kind (enc a) (enc b) = some (decide (a = b))
  bits : ∀ a n, Instr.sameBits n (enc a) (enc a) = true
  check : ∀ e a w, (Instr.checkKey e 10000 K (enc a)).run P w = .ok () w
section
variable {P : Program} {K : TypeId} {κ : Type} [DecidableEq κ] (E : KeyEnc P K κ)
def IsME (w : World) (b : Nat) (kv : List (κ × Value)) (es : Array MapEntry) (clock : Nat) : Prop :=
  w.heap[b]? = some (.map es clock) ∧ es.toList.map (fun e => (e.key, e.val)) = kv.map (fun p => (E.enc p.1, p.2)) ∧ (∀ e ∈ es.toList, e.born < clock) ∧ (es.toList.map (·.born)).Nodup ∧ (kv.map (·.1)).Nodup
def IsMap (w : World) (b : Nat) (kv : List (κ × Value)) : Prop := ∃ es clock, IsME E w b kv es clock
def lk : List (κ × Value) → κ → Option Value
  | [], _ => none
  | p :: l, k => if p.1 = k then some p.2 else lk l k
def up (l : List (κ × Value)) (k : κ) (v : Value) : List (κ × Value) := if (lk l k).isSome then l.map (fun p => if p.1 = k then (k, v) else p) else l ++ [(k, v)]
def rm (l : List (κ × Value)) (k : κ) : List (κ × Value) := l.filter (fun p => decide (p.1 ≠ k))
theorem lk_none {l : List (κ × Value)} {k : κ} : lk l k = none ↔ k ∉ l.map (·.1) := by
  induction l with
  | nil => simp [lk]
  | cons p l ih =>
    rw [lk]
    split
    · rename_i h; simp [h]
    · rename_i h; rw [ih]; simp [Ne.symm h]
theorem lk_mem {l : List (κ × Value)} {k : κ} {v : Value} (h : lk l k = some v) : (k, v) ∈ l := by
  induction l with
  | nil => cases h
  | cons p l ih =>
    rw [lk] at h
    split at h
    · rename_i hk; injection h with h; rw [← hk, ← h]; exact List.mem_cons_self
    · exact List.mem_cons_of_mem _ (ih h)
theorem mem_lk {l : List (κ × Value)} (hn : (l.map (·.1)).Nodup) {k : κ} {v : Value} (h : (k, v) ∈ l) : lk l k = some v := by
  induction l with
  | nil => cases h
  | cons p l ih =>
    rw [List.map_cons, List.nodup_cons] at hn
    rcases List.mem_cons.1 h with e | e
    · rw [← e, lk, if_pos rfl]
    · rw [lk, if_neg (fun e2 => hn.1 (by rw [e2]; exact List.mem_map.2 ⟨_, e, rfl⟩))]
      exact ih hn.2 e
theorem keys_up (l : List (κ × Value)) (k : κ) (v : Value) : (up l k v).map (·.1) = if (lk l k).isSome then l.map (·.1) else l.map (·.1) ++ [k] := by
  unfold up
  split
  · rw [List.map_map]
    refine List.map_congr_left (fun p _ => ?_)
    simp only [Function.comp]
    split
    · rename_i h; rw [h]
    · rfl
  · simp
theorem nodup_up {l : List (κ × Value)} (h : (l.map (·.1)).Nodup) (k : κ) (v : Value) : ((up l k v).map (·.1)).Nodup := by
  rw [keys_up]
  split
  · exact h
  · rename_i hk
    have : k ∉ l.map (·.1) := lk_none.1 (by simpa using hk)
    rw [List.nodup_append]
    exact ⟨h, by simp, fun a ha b hb e => this (by simp at hb; rw [← hb, ← e]; exact ha)⟩
theorem find_now : ∀ (es : List MapEntry) (kv : List (κ × Value)) (k : κ) (i : Nat), es.map (fun e => (e.key, e.val)) = kv.map (fun p => (E.enc p.1, p.2)) →
    (lk kv k = none ∧ Instr.findNow E.kind (E.enc k) es i = some none) ∨ ∃ v j, lk kv k = some v ∧ Instr.findNow E.kind (E.enc k) es i = some (some (i + j, v)) ∧ kv[j]? = some (k, v)
  | [], [], k, i, _ => .inl ⟨rfl, rfl⟩
  | [], _ :: _, _, _, h => by simp at h
  | _ :: _, [], _, _, h => by simp at h
  | e :: es, p :: kv, k, i, h => by
    rw [List.map_cons, List.map_cons, List.cons.injEq] at h
    obtain ⟨h1, h2⟩ := h
    obtain ⟨h3, h4⟩ := Prod.mk.inj h1
    have hs : Instr.sameNow E.kind (E.enc k) e.key = some (decide (k = p.1)) := by rw [h3]; exact E.same k p.1
    unfold Instr.findNow
    rw [hs]
    by_cases hk : k = p.1
    · right
      refine ⟨p.2, 0, by rw [lk, if_pos hk.symm], by simp [hk, h4], by simp [hk]⟩
    · rw [decide_eq_false hk]
      rcases find_now es kv k (i + 1) h2 with ⟨a, b⟩ | ⟨v, j, a, b, c⟩
      · exact .inl ⟨by rw [lk, if_neg (Ne.symm hk)]; exact a, b⟩
      · exact .inr ⟨v, j + 1, by rw [lk, if_neg (Ne.symm hk)]; exact a, by show _ = _; rw [b, show i + 1 + j = i + (j + 1) by omega], by simpa using c⟩
variable {E} {w w' : World} {b : Nat} {kv : List (κ × Value)}
theorem IsMap.keep (h : IsMap E w b kv) (hb : w'.heap[b]? = w.heap[b]?) : IsMap E w' b kv := by
  obtain ⟨es, c, h1, h2⟩ := h; exact ⟨es, c, hb.trans h1, h2⟩
theorem IsMap.lt (h : IsMap E w b kv) : b < w.heap.size := by obtain ⟨es, c, h1, _⟩ := h; exact (Array.getElem?_eq_some_iff.1 h1).1
theorem IsMap.ext (h : IsMap E w b kv) (hx : Ext w w') : IsMap E w' b kv := h.keep (hx.block h.lt)
theorem IsMap.new (w : World) : IsMap E (w.alloc (.map #[] 0)) w.heap.size ([] : List (κ × Value)) := ⟨#[], 0, heap_alloc_new w _, rfl, by simp, by simp, by simp⟩
theorem IsMap.look {t e : TypeId} (h : IsMap E w b kv) (ht : P.underlying t = some (.map K e)) {z : Value} (hz : (zeroValue e).run P w = .ok z w) (k : κ) (ok : Bool) :
    (Instr.lookup t (.map (some b)) (E.enc k) ok).run P w = .ok (if ok then .tuple #[(lk kv k).getD z, .bool (lk kv k).isSome] else (lk kv k).getD z) w := by
  obtain ⟨es, c, h1, h2, _⟩ := h
  have hf : (Instr.findKey K (E.enc k) es.toList).run P w = .ok (match lk kv k with | none => none | some v => (Instr.findNow E.kind (E.enc k) es.toList 0).getD none) w := by
    unfold Instr.findKey
    rw [Sem.run_bind, run_underlying E.under]
    simp only [Result.andThen]
    rcases find_now E es.toList kv k 0 h2 with ⟨a, b⟩ | ⟨v, j, a, b, _⟩ <;> rw [a, b] <;> rfl
  have hg := MapKept.run_getObj_map (P := P) h1
  have hcheck := fun e => E.check e k w
  unfold Instr.lookup
  rcases find_now E es.toList kv k 0 h2 with ⟨a, b⟩ | ⟨v, j, a, b, _⟩
  · rw [a] at hf ⊢
    simp [run_underlying ht, hg, hcheck, hf, hz, Result.andThen]
  · rw [a, b] at hf
    rw [a]
    simp [run_underlying ht, hg, hcheck, hf, Result.andThen]
theorem set_at {w : World} {b : Nat} {o o' : Obj} (h : w.heap[b]? = some o) : (setBlock w b o').heap[b]? = some o' := (MapKept.heap_set h).1
theorem grown_block (w : World) (b : Nat) (o : Obj) : w.grownBy (setBlock w b o) (some b) := ⟨rfl, rfl, rfl, by simp [setBlock], fun k hk hne => by
  have : b ≠ k := fun e => hne (by rw [e])
  simp [setBlock, this]⟩
theorem size_block (w : World) (b : Nat) (o : Obj) : (setBlock w b o).heap.size = w.heap.size := by simp [setBlock]
theorem modify_map {α β : Type} (f : α → β) (g : α → α) (g' : β → β) (h : ∀ x, f (g x) = g' (f x)) : ∀ (l : List α) (j : Nat), (l.modify j g).map f = (l.map f).modify j g'
  | [], j => by simp
  | x :: l, 0 => by simp [h]
  | x :: l, j + 1 => by simp [modify_map f g g' h l j]
theorem modify_up : ∀ (l : List (κ × Value)) (j : Nat) (k : κ) (v u : Value), (l.map (·.1)).Nodup → l[j]? = some (k, u) → l.modify j (fun _ => (k, v)) = l.map (fun p => if p.1 = k then (k, v) else p)
  | [], j, k, v, u, _, h => by simp at h
  | p :: l, 0, k, v, u, hn, h => by
    rw [List.map_cons, List.nodup_cons] at hn
    simp at h
    rw [List.map_cons, if_pos (by rw [h])]
    simp only [List.modify_zero_cons, List.cons.injEq, true_and]
    rw [← List.map_id l, List.map_map]
    refine List.map_congr_left (fun q hq => ?_)
    have : q.1 ≠ k := fun e => hn.1 (by rw [h]; exact List.mem_map.2 ⟨q, hq, e⟩)
    simp [this]
  | p :: l, j + 1, k, v, u, hn, h => by
    rw [List.map_cons, List.nodup_cons] at hn
    simp at h
    have hk : p.1 ≠ k := fun e => hn.1 (by rw [e]; exact List.mem_map.2 ⟨(k, u), List.mem_of_getElem? h, rfl⟩)
    rw [List.modify_succ_cons, modify_up l j k v u hn.2 h, List.map_cons, if_neg hk]
theorem modify_born (l : List MapEntry) (j : Nat) (g : MapEntry → MapEntry) (h : ∀ x, (g x).born = x.born) : (l.modify j g).map (·.born) = l.map (·.born) := by
  rw [modify_map (·.born) g id h]; simp
theorem IsMap.store {t e : TypeId} (h : IsMap E w b kv) (ht : P.underlying t = some (.map K e)) (k : κ) (v : Value) :
    ∃ w', (Instr.mapUpdate t (.map (some b)) (E.enc k) v).run P w = .ok () w' ∧ IsMap E w' b (up kv k v) ∧ w.grownBy w' (some b) ∧ w'.heap.size = w.heap.size := by
  obtain ⟨es, c, h1, h2, h3, h4, h5⟩ := h
  have hg := MapKept.run_getObj_map (P := P) h1
  have hcheck := fun e => E.check e k w
  have hf : (Instr.findKey K (E.enc k) es.toList).run P w = .ok ((Instr.findNow E.kind (E.enc k) es.toList 0).getD none) w := by
    unfold Instr.findKey
    rw [Sem.run_bind, run_underlying E.under]
    simp only [Result.andThen]
    rcases find_now E es.toList kv k 0 h2 with ⟨a, b⟩ | ⟨v, j, a, b, _⟩ <;> rw [b] <;> rfl
  rcases find_now E es.toList kv k 0 h2 with ⟨a, q⟩ | ⟨u, j, a, q, hj⟩
  · rw [q] at hf
    refine ⟨setBlock w b (.map (es.push { key := E.enc k, val := v, born := c }) (c + 1)), ?_, ⟨_, _, set_at h1, ?_, ?_, ?_, nodup_up h5 k v⟩, grown_block _ _ _, size_block _ _ _⟩
    · unfold Instr.mapUpdate
      simp [run_underlying ht, hg, hcheck, hf, Result.andThen, MapKept.run_setObj_map (P := P) _ h1, setBlock]
    · unfold up
      rw [if_neg (by rw [a]; simp), Array.toList_push, List.map_append, h2, List.map_append]
      rfl
    · intro x hx
      rw [Array.toList_push] at hx
      rcases List.mem_append.1 hx with hx | hx
      · have := h3 x hx; omega
      · simp at hx; rw [hx]; simp
    · rw [Array.toList_push, List.map_append, List.nodup_append]
      refine ⟨h4, by simp, fun x hx y hy e => ?_⟩
      obtain ⟨z, hz, rfl⟩ := List.mem_map.1 hx
      have := h3 z hz
      simp at hy
      omega
  · rw [q] at hf
    rw [Nat.zero_add] at q hf
    have hjl : j < es.size := by
      have h6 := congrArg List.length h2
      have h7 := (List.getElem?_eq_some_iff.1 hj).1
      simp at h6
      omega
    have hek : es[j].key = E.enc k := by
      have h6 := congrArg (fun l => l[j]?) h2
      simp only [List.getElem?_map, hj, Option.map_some] at h6
      rw [Array.getElem?_toList, Array.getElem?_eq_getElem hjl] at h6
      simp at h6
      exact h6.1
    refine ⟨setBlock w b (.map (es.modify j fun e => { e with key := E.enc k, val := v }) c), ?_, ⟨_, _, set_at h1, ?_, ?_, ?_, nodup_up h5 k v⟩, grown_block _ _ _, size_block _ _ _⟩
    · unfold Instr.mapUpdate
      simp [run_underlying ht, hg, hcheck, hf, Result.andThen, MapKept.run_setObj_map (P := P) _ h1, setBlock, Instr.keyThatStays, Array.getElem?_eq_getElem hjl, hek, E.bits]
    · unfold up
      rw [if_pos (by rw [a]; simp), Array.toList_modify, modify_map (fun e : MapEntry => (e.key, e.val)) _ (fun _ => (E.enc k, v)) (fun _ => rfl), h2, ← modify_up kv j k v u h5 hj,
        modify_map (fun p : κ × Value => (E.enc p.1, p.2)) (fun _ => (k, v)) (fun _ => (E.enc k, v)) (fun _ => rfl)]
    · intro x hx
      rw [Array.toList_modify] at hx
      have h6 : x.born ∈ (es.toList.map (·.born)) := by
        rw [← modify_born es.toList j (fun e => { e with key := E.enc k, val := v }) (fun x => rfl)]
        exact List.mem_map.2 ⟨x, hx, rfl⟩
      obtain ⟨z, hz, e⟩ := List.mem_map.1 h6
      have := h3 z hz
      omega
    · rw [Array.toList_modify, modify_born es.toList j (fun e => { e with key := E.enc k, val := v }) (fun x => rfl)]
      exact h4
theorem IsME.del {t ty e : TypeId} {es : Array MapEntry} {c : Nat} (h : IsME E w b kv es c) (ht : P.underlying t = some (.map K e)) (k : κ) :
    ∃ es', (Builtin.delete_ #[t, K] ty #[.map (some b), E.enc k]).run P w = .ok (.tuple #[]) (setBlock w b (.map es' c)) ∧ IsME E (setBlock w b (.map es' c)) b (rm kv k) es' c ∧ es'.toList.Sublist es.toList := by
  obtain ⟨h1, h2, h3, h4, h5⟩ := h
  have hg := MapKept.run_getObj_map (P := P) h1
  have hcheck := fun e => E.check e k w
  have hf : (Instr.findKey K (E.enc k) es.toList).run P w = .ok ((Instr.findNow E.kind (E.enc k) es.toList 0).getD none) w := by
    unfold Instr.findKey
    rw [Sem.run_bind, run_underlying E.under]
    simp only [Result.andThen]
    rcases find_now E es.toList kv k 0 h2 with ⟨a, b⟩ | ⟨v, j, a, b, _⟩ <;> rw [b] <;> rfl
  rcases find_now E es.toList kv k 0 h2 with ⟨a, q⟩ | ⟨u, j, a, q, hj⟩
  · rw [q] at hf
    refine ⟨es, ?_, ⟨set_at h1, ?_, h3, h4, ?_⟩, List.Sublist.refl _⟩
    · simp [Builtin.delete_, run_underlying ht, hg, hcheck, hf, Result.andThen, MapKept.run_setObj_map (P := P) _ h1, setBlock]
    · rw [h2]
      have : rm kv k = kv := List.filter_eq_self.2 (fun p hp => by
        have h7 := lk_none.1 a
        simp
        exact fun e => h7 (by rw [← e]; exact List.mem_map.2 ⟨p, hp, rfl⟩))
      rw [this]
    · exact List.Sublist.nodup ((List.filter_sublist).map _) h5
  · rw [q] at hf
    rw [Nat.zero_add] at q hf
    have hrm : ∀ (l : List (κ × Value)) (j : Nat), (l.map (·.1)).Nodup → l[j]? = some (k, u) → rm l k = l.eraseIdx j := by
      intro l
      induction l with
      | nil => intro j _ h; simp at h
      | cons p l ih =>
        intro j hn h
        rw [List.map_cons, List.nodup_cons] at hn
        cases j with
        | zero =>
          simp at h
          unfold rm
          rw [List.filter_cons, if_neg (by simp [h]), List.eraseIdx_cons_zero]
          refine List.filter_eq_self.2 (fun q hq => ?_)
          simp
          exact fun e => hn.1 (by rw [h]; exact List.mem_map.2 ⟨q, hq, e⟩)
        | succ j =>
          simp at h
          have hk : p.1 ≠ k := fun e => hn.1 (by rw [e]; exact List.mem_map.2 ⟨(k, u), List.mem_of_getElem? h, rfl⟩)
          have := ih j hn.2 h
          unfold rm at this ⊢
          rw [List.filter_cons, if_pos (by simpa using hk), this, List.eraseIdx_cons_succ]
    refine ⟨es.eraseIdxIfInBounds j, ?_, ⟨set_at h1, ?_, ?_, ?_, ?_⟩, by rw [Array.toList_eraseIdxIfInBounds]; exact List.eraseIdx_sublist _ _⟩
    · simp [Builtin.delete_, run_underlying ht, hg, hcheck, hf, Result.andThen, MapKept.run_setObj_map (P := P) _ h1, setBlock]
    · rw [Array.toList_eraseIdxIfInBounds, ChangeMaps.map_eraseIdx, h2, hrm kv j h5 hj, ChangeMaps.map_eraseIdx]
    · intro x hx
      rw [Array.toList_eraseIdxIfInBounds] at hx
      exact h3 x ((List.eraseIdx_sublist _ _).subset hx)
    · rw [Array.toList_eraseIdxIfInBounds]
      exact List.Sublist.nodup ((List.eraseIdx_sublist _ _).map _) h4
    · exact List.Sublist.nodup ((List.filter_sublist).map _) h5
theorem len_run {t ty e : TypeId} (h : IsMap E w b kv) (ht : P.underlying t = some (.map K e)) : (Builtin.len_ #[t] ty #[.map (some b)]).run P w = .ok (.int .i64 kv.length) w := by
  obtain ⟨es, c, h1, h2, _⟩ := h
  have hl : es.size = kv.length := by have := congrArg List.length h2; simpa using this
  simp [Builtin.len_, run_underlying ht, MapKept.run_getObj_map (P := P) h1, Result.andThen, goInt, hl]
theorem nodup_on {α β : Type} {f : α → β} (hf : ∀ a b, f a = f b → a = b) : ∀ {l : List α}, l.Nodup → (l.map f).Nodup
  | [], _ => by simp
  | x :: l, h => by
    rw [List.nodup_cons] at h
    rw [List.map_cons, List.nodup_cons]
    refine ⟨fun hm => ?_, nodup_on hf h.2⟩
    obtain ⟨y, hy, e⟩ := List.mem_map.1 hm
    exact h.1 (by rw [← hf y x e]; exact hy)
theorem inj_on {α β : Type} {f : α → β} : ∀ {l : List α}, (l.map f).Nodup → ∀ {x y : α}, x ∈ l → y ∈ l → f x = f y → x = y
  | [], _, x, y, hx, _, _ => by cases hx
  | z :: l, h, x, y, hx, hy, e => by
    rw [List.map_cons, List.nodup_cons] at h
    rcases List.mem_cons.1 hx with hx | hx <;> rcases List.mem_cons.1 hy with hy | hy
    · rw [hx, hy]
    · exact absurd (by rw [← hx, e]; exact List.mem_map.2 ⟨y, hy, rfl⟩) h.1
    · exact absurd (by rw [← hy, ← e]; exact List.mem_map.2 ⟨x, hx, rfl⟩) h.1
    · exact inj_on h.2 hx hy e
def Ranging (E : KeyEnc P K κ) (w : World) (b r : Nat) (kv : List (κ × Value)) (D : κ → Bool) (cnt : Nat) : Prop :=
  ∃ es clock since seen c0, IsME E w b kv es clock ∧ w.heap[r]? = some (.mapIter (some b) since seen c0) ∧ (∀ x ∈ es.toList, x.born < since) ∧ since ≤ c0 ∧ since ≤ clock ∧
    (leftOf es seen).size = cnt ∧ ∀ x ∈ es.toList, ∀ k, x.key = E.enc k → D k = seen.contains x.born
theorem KeyEnc.inj {a b : κ} (h : E.enc a = E.enc b) : a = b := by
  have h1 := E.same a a
  have h2 := E.same a b
  rw [← h, h1] at h2
  simpa using h2
theorem entry_of {es : Array MapEntry} {clock : Nat} (h : IsME E w b kv es clock) {x : MapEntry} (hx : x ∈ es.toList) : ∃ p ∈ kv, x.key = E.enc p.1 ∧ x.val = p.2 := by
  have h2 := h.2.1
  have : (x.key, x.val) ∈ kv.map (fun p => (E.enc p.1, p.2)) := by rw [← h2]; exact List.mem_map.2 ⟨x, hx, rfl⟩
  obtain ⟨p, hp, e⟩ := List.mem_map.1 this
  exact ⟨p, hp, (Prod.mk.inj e).1.symm, (Prod.mk.inj e).2.symm⟩
theorem of_entry {es : Array MapEntry} {clock : Nat} (h : IsME E w b kv es clock) {p : κ × Value} (hp : p ∈ kv) : ∃ x ∈ es.toList, x.key = E.enc p.1 ∧ x.val = p.2 := by
  have h2 := h.2.1
  have : (E.enc p.1, p.2) ∈ es.toList.map (fun e => (e.key, e.val)) := by rw [h2]; exact List.mem_map.2 ⟨p, hp, rfl⟩
  obtain ⟨x, hx, e⟩ := List.mem_map.1 this
  exact ⟨x, hx, (Prod.mk.inj e).1, (Prod.mk.inj e).2⟩
theorem Ranging.keep {r cnt : Nat} {D : κ → Bool} (h : Ranging E w b r kv D cnt) (hb : w'.heap[b]? = w.heap[b]?) (hr : w'.heap[r]? = w.heap[r]?) : Ranging E w' b r kv D cnt := by
  obtain ⟨es, c, s, seen, c0, ⟨h1, h2⟩, h3, h4⟩ := h
  exact ⟨es, c, s, seen, c0, ⟨hb.trans h1, h2⟩, hr.trans h3, h4⟩
theorem Ranging.map {r cnt : Nat} {D : κ → Bool} (h : Ranging E w b r kv D cnt) : IsMap E w b kv := by obtain ⟨es, c, s, seen, c0, h1, _⟩ := h; exact ⟨es, c, h1⟩
theorem Ranging.rlt {r cnt : Nat} {D : κ → Bool} (h : Ranging E w b r kv D cnt) : r < w.heap.size := by obtain ⟨es, c, s, seen, c0, _, h1, _⟩ := h; exact (Array.getElem?_eq_some_iff.1 h1).1
theorem Ranging.ne {r cnt : Nat} {D : κ → Bool} (h : Ranging E w b r kv D cnt) : r ≠ b := by
  obtain ⟨es, c, s, seen, c0, h0, h1, _⟩ := h
  intro e
  rw [e, h0.1] at h1
  cases h1
theorem IsMap.range {t e : TypeId} (h : IsMap E w b kv) (ht : P.underlying t = some (.map K e)) :
    ∃ w', (Instr.range t (.map (some b))).run P w = .ok (.pointer (some ⟨w.heap.size, 0, none⟩)) w' ∧ (∃ cnt, Ranging E w' b w.heap.size kv (fun _ => false) cnt) ∧ Ext w w' := by
  have hl := h.lt
  obtain ⟨es, c, h1⟩ := h
  refine ⟨_, run_range_map w t K e b es c ht h1.1, ⟨_, es, c, c, #[], c, ⟨(heap_alloc_old w _ hl).trans h1.1, h1.2⟩, heap_alloc_new w _, h1.2.2.1, Nat.le_refl _, Nat.le_refl _, rfl, fun x hx k _ => by simp⟩, (Ext.refl w).alloc_right _⟩
theorem Ranging.next {r cnt : Nat} {D : κ → Bool} (h : Ranging E w b r kv D cnt) (ty : TypeId) :
    ((∀ p ∈ kv, D p.1 = true) ∧ (Instr.next (.pointer (some ⟨r, 0, none⟩)) false ty).run P w = .ok (.tuple #[.bool false]) w) ∨
    ∃ k v w' cnt', (k, v) ∈ kv ∧ D k = false ∧ (Instr.next (.pointer (some ⟨r, 0, none⟩)) false ty).run P w = .ok (.tuple #[.bool true, E.enc k, v]) w' ∧
      Ranging E w' b r kv (fun x => D x || decide (x = k)) cnt' ∧ cnt' < cnt ∧ w.grownBy w' (some r) ∧ w'.heap.size = w.heap.size ∧ (Instr.entry (.pointer (some ⟨r, 0, none⟩))).run P w' = .ok (.tuple #[E.enc k, v]) w' := by
  have hne := h.ne
  obtain ⟨es, clock, since, seen, c0, hm, hr, hold, hsc, hsk, hcnt, hD⟩ := h
  rcases run_next_at (P := P) w ty r b since c0 seen es clock hr hm.1 hold hsc with ⟨h0, hrun⟩ | ⟨e, he, w1, hal, hrun⟩
  · refine .inl ⟨fun p hp => ?_, hrun⟩
    obtain ⟨x, hx, hk, _⟩ := of_entry hm hp
    rw [hD x hx _ hk]
    exact all_seen es seen h0 x hx
  · obtain ⟨hem, hes⟩ := mem_left he
    obtain ⟨p, hp, hk, hv⟩ := entry_of hm hem
    have hr1 : w1.heap[r]? = some (.mapIter (some b) since seen c0) := by rcases hal with rfl | rfl <;> exact hr
    have hb1 : w1.heap[b]? = some (.map es clock) := by rcases hal with rfl | rfl <;> exact hm.1
    have hset := MapKept.heap_set (o' := .mapIter (some b) since (seen.push e.born) clock) hr1
    have hb' : (setBlock w1 r (.mapIter (some b) since (seen.push e.born) clock)).heap[b]? = some (.map es clock) := (hset.2 b (fun e1 => hne e1.symm)).trans hb1
    refine .inr ⟨p.1, p.2, _, _, hp, (hD e hem _ hk).trans hes, by rw [hrun, hk, hv], ⟨es, clock, since, seen.push e.born, clock, ⟨hb', hm.2⟩, hset.1, hold, hsk, hsk, rfl, fun x hx k hxk => ?_⟩, by rw [← hcnt]; exact left_shrinks es seen e he, ?_, ?_, ?_⟩
    · show (D k || decide (k = p.1)) = _
      rw [hD x hx k hxk, contains_push]
      congr 1
      by_cases q : k = p.1
      · subst q
        have : x = e := by
          have hp : (es.toList.map (fun e => (e.key, e.val))).map (·.1) = (kv.map (·.1)).map E.enc := by rw [hm.2.1]; simp
          have hn : (es.toList.map (·.key)).Nodup := by
            have : es.toList.map (·.key) = (kv.map (·.1)).map E.enc := by rw [← hp]; simp
            rw [this]
            exact nodup_on (fun a b h => KeyEnc.inj h) hm.2.2.2.2
          exact inj_on hn hx hem (by rw [hxk, hk])
        rw [this]; simp
      · rw [decide_eq_false q]
        symm
        rw [beq_eq_false_iff_ne]
        intro e2
        have : x = e := inj_on hm.2.2.2.1 hx hem e2
        rw [this, hk] at hxk
        exact q (KeyEnc.inj hxk).symm
    · rcases hal with rfl | rfl <;> exact ⟨rfl, rfl, rfl, by simp [setBlock], fun i _ hi => hset.2 i (fun e1 => hi (by rw [e1]))⟩
    · rcases hal with rfl | rfl <;> simp [setBlock]
    · rw [← hk, ← hv]
      exact run_entry_at _ r b since seen es clock e hset.1 hb' hem hm.2.2.2.1
theorem Ranging.del {r cnt : Nat} {D : κ → Bool} {t ty e : TypeId} (h : Ranging E w b r kv D cnt) (ht : P.underlying t = some (.map K e)) (k : κ) :
    ∃ w' cnt', (Builtin.delete_ #[t, K] ty #[.map (some b), E.enc k]).run P w = .ok (.tuple #[]) w' ∧ Ranging E w' b r (rm kv k) D cnt' ∧ cnt' ≤ cnt ∧ w.grownBy w' (some b) ∧ w'.heap.size = w.heap.size := by
  have hne := h.ne
  obtain ⟨es, clock, since, seen, c0, hm, hr, hold, hsc, hsk, hcnt, hD⟩ := h
  obtain ⟨es', hrun, hm', hsub⟩ := hm.del (ty := ty) ht k
  refine ⟨_, _, hrun, ⟨es', clock, since, seen, c0, hm', (MapKept.heap_set hm.1).2 r hne |>.trans hr, fun x hx => hold x (hsub.subset hx), hsc, hsk, rfl, fun x hx => hD x (hsub.subset hx)⟩, ?_, grown_block _ _ _, size_block _ _ _⟩
  rw [← hcnt]
  have : ∀ es : Array MapEntry, (leftOf es seen).size = (es.toList.filter fun e => !seen.contains e.born).length := fun es => by unfold leftOf; rw [← Array.length_toList, Array.toList_filter]
  rw [this, this]
  exact (hsub.filter _).length_le
end
open Go.RowKit Go.Shelf
def keyI : KeyEnc Tryz.prog 3 Int where
  enc := fun k => .int .i64 k
  kind := .int .i64
  under := Tryz.underlying3
  same := fun a b => by simp [Instr.sameNow]; rfl
  bits := fun a n => by cases n <;> simp [Instr.sameBits]
  check := fun e a w => MapKept.run_checkKey Tryz.underlying3 (by simp [MapKept.IsKey]) e 9999
theorem beq_dec (a b : ByteArray) : (a == b) = decide (a = b) := by
  rw [Bool.eq_iff_iff, MapKept.bytes_beq, decide_eq_true_iff]
def keyS : KeyEnc Tryz.prog 9 ByteArray where
  enc := fun k => .string k
  kind := .string
  under := Tryz.underlying9
  same := fun a b => by simp [Instr.sameNow, beq_dec]
  bits := fun a n => by cases n <;> simp [Instr.sameBits, beq_dec]
  check := fun e a w => MapKept.run_checkKey Tryz.underlying9 (by simp [MapKept.IsKey]) e 9999
structure Kd where
  L : Int
  lo : Int
  hi : Int
  wr : Nat
  rd : Nat
def Kd.v (d : Kd) : Value := .agg #[.int .u8 d.L, .int .i64 d.lo, .int .i64 d.hi, .func (.func d.wr) #[] #[], .func (.func d.rd) #[] #[]]
def knd (k : Int) : Option Kd := if k = 1 then some ⟨76, 1, 1, 146, 147⟩ else if k = 2 then some ⟨78, 1, 15, 148, 149⟩ else if k = 3 then some ⟨68, 8, 8, 150, 151⟩ else if k = 4 then some ⟨67, 1, 254, 152, 153⟩ else if k = 5 then some ⟨77, 8, 8, 154, 155⟩ else none
def kvK : List (Int × Value) := [(1, Kd.v ⟨76, 1, 1, 146, 147⟩), (2, Kd.v ⟨78, 1, 15, 148, 149⟩), (3, Kd.v ⟨68, 8, 8, 150, 151⟩), (4, Kd.v ⟨67, 1, 254, 152, 153⟩), (5, Kd.v ⟨77, 8, 8, 154, 155⟩)]
theorem lk_kinds (k : Int) : lk kvK k = (knd k).map Kd.v := by
  unfold kvK knd
  simp only [lk, eq_comm (b := k)]
  split
  · rfl
  split
  · rfl
  split
  · rfl
  split
  · rfl
  split <;> rfl
theorem Ext.own_grown {w w1 w2 : World} {b : Nat} (h : Ext w w1) (hg : w1.grownBy w2 (some b)) (hb : w.heap.size ≤ b) : Ext w w2 :=
  ⟨hg.os.trans h.os, hg.tape.trans h.tape, hg.output.trans h.output, Nat.le_trans h.size hg.size, fun k hk => (hg.block k (Nat.lt_of_lt_of_le hk h.size) (fun e => by injection e with e; omega)).trans (h.block hk)⟩
theorem kinds_any (w : World) : Calls Tryz.prog 107 #[] w fun e w' => ∃ r, e = .returned (.map (some r)) ∧ IsMap keyI w' r kvK ∧ w.heap.size ≤ r ∧ Ext w w' := by
  have hmm := @run_makeMap Tryz.prog
  have m0 : IsMap keyI (w.alloc (.map #[] 0)) w.heap.size [] := IsMap.new w
  have x0 := Ext.new w (.map #[] 0)
  obtain ⟨w1, u1, m1, g1, -⟩ := m0.store (t := 177) Tryz.underlying177 (1 : Int) (Kd.v ⟨76, 1, 1, 146, 147⟩)
  have x1 := x0.own_grown g1 (Nat.le_refl _)
  clear m0 x0 g1
  change Sem.run _ (Instr.mapUpdate _ _ (.int .i64 1) (.agg #[_, _, _, _, _])) _ = _ at u1
  obtain ⟨w2, u2, m2, g2, -⟩ := m1.store (t := 177) Tryz.underlying177 (2 : Int) (Kd.v ⟨78, 1, 15, 148, 149⟩)
  have x2 := x1.own_grown g2 (Nat.le_refl _)
  clear m1 x1 g2
  change Sem.run _ (Instr.mapUpdate _ _ (.int .i64 2) (.agg #[_, _, _, _, _])) _ = _ at u2
  obtain ⟨w3, u3, m3, g3, -⟩ := m2.store (t := 177) Tryz.underlying177 (3 : Int) (Kd.v ⟨68, 8, 8, 150, 151⟩)
  have x3 := x2.own_grown g3 (Nat.le_refl _)
  clear m2 x2 g3
  change Sem.run _ (Instr.mapUpdate _ _ (.int .i64 3) (.agg #[_, _, _, _, _])) _ = _ at u3
  obtain ⟨w4, u4, m4, g4, -⟩ := m3.store (t := 177) Tryz.underlying177 (4 : Int) (Kd.v ⟨67, 1, 254, 152, 153⟩)
  have x4 := x3.own_grown g4 (Nat.le_refl _)
  clear m3 x3 g4
  change Sem.run _ (Instr.mapUpdate _ _ (.int .i64 4) (.agg #[_, _, _, _, _])) _ = _ at u4
  obtain ⟨w5, u5, m5, g5, -⟩ := m4.store (t := 177) Tryz.underlying177 (5 : Int) (Kd.v ⟨77, 8, 8, 154, 155⟩)
  have x5 := x4.own_grown g5 (Nat.le_refl _)
  clear m4 x4 g5
  change Sem.run _ (Instr.mapUpdate _ _ (.int .i64 5) (.agg #[_, _, _, _, _])) _ = _ at u5
  replace m5 := hid m5
  replace x5 := hid x5
  go_enter Tryz.func107, Tryz.ntmps107
  go_wp2
  go_ret
  exact ⟨w.heap.size, rfl, m5.out, Nat.le_refl _, x5.out⟩
def chars : ByteArray := ⟨#[65, 66, 67, 68, 69, 70, 71, 72, 73, 74, 75, 76, 77, 78, 79, 80, 81, 82, 83, 84, 85, 86, 87, 88, 89, 90, 48, 49, 50, 51, 52, 53, 54, 55, 56, 57, 95]⟩
def rest (s : ByteArray) : ByteArray := ⟨(Lib.trimS s.data.toList chars.data.toList).toArray⟩
def nameB (s : ByteArray) : Bool := decide (0 < s.size) && (decide (s.size ≤ 10) && ((rest s).toList.isEmpty && (decide (65 ≤ Ky.bth s.toList 0) && decide (Ky.bth s.toList 0 ≤ 90))))
theorem trimN_any (s : ByteArray) (hs : s.size ≤ 10) (w : World) : Calls Tryz.prog 156 #[.string s, .string ⟨#[65, 66, 67, 68, 69, 70, 71, 72, 73, 74, 75, 76, 77, 78, 79, 80, 81, 82, 83, 84, 85, 86, 87, 88, 89, 90, 48, 49, 50, 51, 52, 53, 54, 55, 56, 57, 95]⟩] w (Give (.string (rest s)) w) := by
  refine (Any.strings_Trim_laid Tryz.lays160 (by kernel_rfl) s chars w (by omega) (by decide) (ascii_of_all (by decide))).mono ?_
  rintro e w' ⟨rfl, hb⟩
  exact ⟨rfl, hb⟩
theorem emptyB (s : ByteArray) : s.toList.isEmpty = decide (s.size = 0) := by
  have := Ky.len_toList s
  cases h : s.toList with
  | nil => rw [h] at this; rw [decide_eq_true (by simpa using this.symm)]; rfl
  | cons a l => rw [h] at this; rw [decide_eq_false (by rw [← this]; simp)]; rfl
theorem isName_any (s : ByteArray) (w : World) : Calls Tryz.prog 108 #[.string s] w (Give (.bool (nameB s)) w) := by
  by_cases h0 : 0 < s.size
  · have e0 : s.toList.isEmpty = false := by rw [emptyB, decide_eq_false (by omega)]
    by_cases h1 : s.size ≤ 10
    · have hT := hid (fun w => trimN_any s h1 w)
      have h1' : (s.size : Int) ≤ 10 := by omega
      have hN : Hid (nameB s = ((rest s).toList.isEmpty && (decide (65 ≤ Ky.bth s.toList 0) && decide (Ky.bth s.toList 0 ≤ 90)))) := by unfold Hid nameB; rw [decide_eq_true h0, decide_eq_true h1]; rfl
      have hb := Ky.byte_at s h0
      generalize Ky.bth s.toList 0 = x at *
      go_enter Tryz.func108, Tryz.ntmps108
      go_wp2_with fail
      refine (hT.out w).mono ?_
      rintro e w1 ⟨rfl, hx⟩
      replace hx := hid hx
      clear hT
      obtain ⟨q, hq⟩ : ∃ q, (rest s).toList.isEmpty = q := ⟨_, rfl⟩
      rw [hq] at hN
      cases q with
      | false =>
        go_wp2
        go_ret
        exact ⟨ret_bool (by rw [hN.out]; rfl), hx.out⟩
      | true =>
        rcases Bool.eq_false_or_eq_true (decide (65 ≤ x)) with h2 | h2 <;> rcases Bool.eq_false_or_eq_true (decide (x ≤ 90)) with h3 | h3
        all_goals rw [h2, h3] at hN
        all_goals go_wp2
        all_goals go_ret
        all_goals exact ⟨ret_bool (by rw [hN.out]; rfl), hx.out⟩
    · have h1' : ¬ (s.size : Int) ≤ 10 := by omega
      have hN : Hid (nameB s = false) := by unfold Hid nameB; rw [decide_eq_false h1]; simp
      go_enter Tryz.func108, Tryz.ntmps108
      go_wp2
      go_ret
      exact ⟨ret_bool (by rw [hN.out]), Ext.refl _⟩
  · have e0 : s.toList.isEmpty = true := by rw [emptyB, decide_eq_true (by omega)]
    have hN : Hid (nameB s = false) := by unfold Hid nameB; rw [decide_eq_false h0]; rfl
    go_enter Tryz.func108, Tryz.ntmps108
    go_wp2
    go_ret
    exact ⟨ret_bool (by rw [hN.out]), Ext.refl _⟩
def fieldB (f : Fd) : Bool := match knd f.k with | none => false | some d => nameB f.nm && (decide (d.lo ≤ f.wd) && decide (f.wd ≤ d.hi))
def Kd0 : Value := .agg #[.int .u8 0, .int .i64 0, .int .i64 0, .nilFunc, .nilFunc]
theorem zeroK (w : World) : (zeroValue 175).run Tryz.prog w = .ok Kd0 w := by kernel_rfl
theorem look_kinds {w : World} {r : Nat} (h : IsMap keyI w r kvK) (k : Int) (ok : Bool) : (Instr.lookup 177 (.map (some r)) (.int .i64 k) ok).run Tryz.prog w = .ok (if ok then .tuple #[((knd k).map Kd.v).getD Kd0, .bool (knd k).isSome] else ((knd k).map Kd.v).getD Kd0) w := by
  have := h.look Tryz.underlying177 (zeroK w) k ok
  rw [lk_kinds, Option.isSome_map] at this
  exact this
theorem isField_any (f : Fd) (w : World) : Calls Tryz.prog 74 #[fd f] w (Give (.bool (fieldB f)) w) := by
  have hF := F4.new w f
  have hx := hid (Ext.new w (.cells #[.string f.nm, .int .i64 f.k, .int .i64 f.wd, .bool f.nl] 64))
  have hB : Hid (fieldB f = match knd f.k with | none => false | some d => nameB f.nm && (decide (d.lo ≤ f.wd) && decide (f.wd ≤ d.hi))) := rfl
  have hN := hid (fun w => isName_any f.nm w)
  generalize nameB f.nm = N at *
  unfold fd
  go_enter Tryz.func74, Tryz.ntmps74
  go_upto_region 1 with fail
  generalize w.alloc (.cells #[.string f.nm, .int .i64 f.k, .int .i64 f.wd, .bool f.nl] 64) = w1 at *
  generalize w.heap.size = b at *
  generalize hk : knd f.k = kd at *
  cases kd with
  | none =>
    go_cut [3, 4] (fun p q wx => ∃ g : Nat, p = .pointer (some ⟨g, 0, none⟩) ∧ q = .bool false ∧ (∀ i v, [.int .u8 0, .int .i64 0, .int .i64 0, .nilFunc, .nilFunc][i]? = some v → wx.cell? ⟨g, i, none⟩ = some v) ∧ Hid (Ext w1 wx))
    case first =>
      have xa := (Ext.refl w1).drew_right
      refine region_J (fun w' => Ext w1 w') 10 (by kernel_rfl) ?_
      generalize w1.drew = da at xa ⊢
      refine JR 1 (v := ?va1) rfl (by kernel_rfl) rfl ?ya1 xa ?ra1
      case ya1 => (intro w hw; (go_simp; with_reducible rfl))
      simp only [Act.put, lyA, lyB, lyC, lyD, lyE, lyF]
      refine JR 2 (v := ?va2) rfl (by kernel_rfl) rfl ?ya2 xa ?ra2
      case ya2 => (intro w hw; obtain ⟨c0, c1, c2, c3, hb⟩ := hF.ext hw; (go_simp; with_reducible rfl))
      simp only [Act.put, lyA, lyB, lyC, lyD, lyE, lyF]
      refine J_two 0 7 rfl rfl (by kernel_rfl) (fun K hK => ?_) (fun K hK => ?_)
      · go_simp
        refine (kinds_any da).mono ?_
        rintro e wa3 ⟨ra3, rfl, hma3, hra3, hxa3⟩
        refine hK _ _ ⟨fun _ => ((xa).trans hxa3), ?_⟩
        clear hK K
        try simp only [Act.put, lyA, lyB, lyC, lyD, lyE, lyF]
        have xa3 := ((xa).trans hxa3)
        refine J_strong (S' := fun w' => Ext w1 w' ∧ IsMap keyI w' ra3 kvK) (fun w h => h.1) ?_
        have lta3 := hma3.lt
        refine JR 3 (v := ?va4) rfl (by kernel_rfl) rfl ?ya4 ⟨xa3, hma3⟩ ?ra4
        case ya4 => (intro w hw; obtain ⟨hw, hm⟩ := hw; have hlk := look_kinds hm f.k true; simp only [hk, Option.map_none, Option.getD_none, Option.isSome_none, if_true, Kd0] at hlk; (go_simp; with_reducible rfl))
        simp only [Act.put, lyA, lyB, lyC, lyD, lyE, lyF]
        refine JR 4 (v := ?va5) rfl (by kernel_rfl) rfl ?ya5 ⟨xa3, hma3⟩ ?ra5
        case ya5 => (intro w hw; obtain ⟨hw, hm⟩ := hw; (go_simp; with_reducible rfl))
        simp only [Act.put, lyA, lyB, lyC, lyD, lyE, lyF]
        refine JR 5 (v := ?va6) rfl (by kernel_rfl) rfl ?ya6 ⟨xa3, hma3⟩ ?ra6
        case ya6 => (intro w hw; obtain ⟨hw, hm⟩ := hw; (go_simp; with_reducible rfl))
        simp only [Act.put, lyA, lyB, lyC, lyD, lyE, lyF]
        refine JR 6 (v := ?va7) rfl (by kernel_rfl) rfl ?ya7 ⟨xa3, hma3⟩ ?ra7
        case ya7 => (intro w hw; obtain ⟨hw, hm⟩ := hw; (go_simp; with_reducible rfl))
        simp only [Act.put, lyA, lyB, lyC, lyD, lyE, lyF]
        refine J_one 7 rfl (by kernel_rfl) (fun K hK => ?_)
        go_simp
        obtain ⟨wa8, ba8, ea8, ga8, ha8, ca8, hxa8, la8⟩ := alloc_at wa3 [.int .u8 0, .int .i64 0, .int .i64 0, .nilFunc, .nilFunc] 175
        simp only [ea8, ga8]
        have za8 : w1.heap.size ≤ ba8 := by rw [← ga8]; exact (xa3).size
        have ya8 : wa3.heap.size ≤ ba8 := by rw [← ga8]; exact Nat.le_refl _
        clear ea8 ga8 ca8
        refine hK _ _ ⟨fun _ => ⟨((xa3).trans hxa8), (hma3).ext hxa8⟩, ?_⟩
        clear hK K
        try simp only [Act.put, lyA, lyB, lyC, lyD, lyE, lyF]
        have xa8 := ((xa3).trans hxa8)
        have ma8 := (hma3).ext hxa8
        refine J_one 8 rfl (by kernel_rfl) (fun K hK => ?_)
        refine step_store0 rfl 175 _ _ rfl ba8 [.int .u8 0, .int .i64 0, .int .i64 0, .nilFunc, .nilFunc] rfl rfl ha8 (by kernel_rfl) (by first | rfl | simp [Value.oneCell']) ?_
        obtain ⟨wa9, ea9, ha9, ca9, hxa9, -, hka9⟩ := store_at (u := w1) [.int .u8 0, .int .i64 0, .int .i64 0, .nilFunc, .nilFunc] ha8 (xa8) za8
        rw [ea9]
        clear ea9
        refine hK _ _ ⟨fun _ => ⟨hxa9, (ma8).keep (hka9 ra3 (by omega))⟩, ?_⟩
        clear hK K
        try simp only [Act.put, lyA, lyB, lyC, lyD, lyE, lyF]
        have ma9 := (ma8).keep (hka9 ra3 (by omega))
        refine JR 9 (v := ?va10) rfl (by kernel_rfl) rfl ?ya10 ⟨hxa9, ma9⟩ ?ra10
        case ya10 => (intro w hw; obtain ⟨hw, hm⟩ := hw; (go_simp; with_reducible rfl))
        simp only [Act.put, lyA, lyB, lyC, lyD, lyE, lyF]
        refine J_done (by kernel_rfl) (OnlyOn.normal ?_)
        clear hF
        go_wp2_with fail
        go_meet
        exact ⟨_, rfl, rfl, ca9, hid (hxa9)⟩
      · go_simp
        obtain ⟨wa11, ba11, ea11, ga11, ha11, ca11, hxa11, la11⟩ := alloc_at da [.int .u8 0, .int .i64 0, .int .i64 0, .nilFunc, .nilFunc] 175
        simp only [ea11, ga11]
        have za11 : w1.heap.size ≤ ba11 := by rw [← ga11]; exact (xa).size
        have ya11 : da.heap.size ≤ ba11 := by rw [← ga11]; exact Nat.le_refl _
        clear ea11 ga11 ca11
        refine hK _ _ ⟨fun _ => ((xa).trans hxa11), ?_⟩
        clear hK K
        try simp only [Act.put, lyA, lyB, lyC, lyD, lyE, lyF]
        have xa11 := ((xa).trans hxa11)
        refine J_one 0 rfl (by kernel_rfl) (fun K hK => ?_)
        have hqa12 := ha11
        go_simp
        refine (kinds_any wa11).mono ?_
        rintro e wa12 ⟨ra12, rfl, hma12, hra12, hxa12⟩
        refine hK _ _ ⟨fun _ => ((xa11).trans hxa12), ?_⟩
        clear hK K
        try simp only [Act.put, lyA, lyB, lyC, lyD, lyE, lyF]
        replace ha11 := ha11.ext hxa12
        have xa12 := ((xa11).trans hxa12)
        refine J_strong (S' := fun w' => Ext w1 w' ∧ IsMap keyI w' ra12 kvK) (fun w h => h.1) ?_
        have lta12 : ba11 < ra12 := Nat.lt_of_lt_of_le (HB.lt hqa12) hra12
        refine JR 3 (v := ?va13) rfl (by kernel_rfl) rfl ?ya13 ⟨xa12, hma12⟩ ?ra13
        case ya13 => (intro w hw; obtain ⟨hw, hm⟩ := hw; have hlk := look_kinds hm f.k true; simp only [hk, Option.map_none, Option.getD_none, Option.isSome_none, if_true, Kd0] at hlk; (go_simp; with_reducible rfl))
        simp only [Act.put, lyA, lyB, lyC, lyD, lyE, lyF]
        refine JR 4 (v := ?va14) rfl (by kernel_rfl) rfl ?ya14 ⟨xa12, hma12⟩ ?ra14
        case ya14 => (intro w hw; obtain ⟨hw, hm⟩ := hw; (go_simp; with_reducible rfl))
        simp only [Act.put, lyA, lyB, lyC, lyD, lyE, lyF]
        refine JR 5 (v := ?va15) rfl (by kernel_rfl) rfl ?ya15 ⟨xa12, hma12⟩ ?ra15
        case ya15 => (intro w hw; obtain ⟨hw, hm⟩ := hw; (go_simp; with_reducible rfl))
        simp only [Act.put, lyA, lyB, lyC, lyD, lyE, lyF]
        refine JR 6 (v := ?va16) rfl (by kernel_rfl) rfl ?ya16 ⟨xa12, hma12⟩ ?ra16
        case ya16 => (intro w hw; obtain ⟨hw, hm⟩ := hw; (go_simp; with_reducible rfl))
        simp only [Act.put, lyA, lyB, lyC, lyD, lyE, lyF]
        refine J_one 8 rfl (by kernel_rfl) (fun K hK => ?_)
        refine step_store0 rfl 175 _ _ rfl ba11 [.int .u8 0, .int .i64 0, .int .i64 0, .nilFunc, .nilFunc] rfl rfl ha11 (by kernel_rfl) (by first | rfl | simp [Value.oneCell']) ?_
        obtain ⟨wa17, ea17, ha17, ca17, hxa17, -, hka17⟩ := store_at (u := w1) [.int .u8 0, .int .i64 0, .int .i64 0, .nilFunc, .nilFunc] ha11 (xa12) za11
        rw [ea17]
        clear ea17
        refine hK _ _ ⟨fun _ => ⟨hxa17, (hma12).keep (hka17 ra12 (by omega))⟩, ?_⟩
        clear hK K
        try simp only [Act.put, lyA, lyB, lyC, lyD, lyE, lyF]
        have ma17 := (hma12).keep (hka17 ra12 (by omega))
        refine JR 9 (v := ?va18) rfl (by kernel_rfl) rfl ?ya18 ⟨hxa17, ma17⟩ ?ra18
        case ya18 => (intro w hw; obtain ⟨hw, hm⟩ := hw; (go_simp; with_reducible rfl))
        simp only [Act.put, lyA, lyB, lyC, lyD, lyE, lyF]
        refine J_done (by kernel_rfl) (OnlyOn.normal ?_)
        clear hF
        go_wp2_with fail
        go_meet
        exact ⟨_, rfl, rfl, ca17, hid (hxa17)⟩
    case rest =>
      obtain ⟨g, rfl, rfl, hc, hx1⟩ := hcut
      have g1 := hc 1 _ rfl
      have g2 := hc 2 _ rfl
      have gl := World.block_lt_of_cell? _ _ g1
      replace hF := hF.ext hx1.out
      replace hx := hid (hx.out.trans hx1.out)
      clear hc hx1
      obtain ⟨c0, c1, c2, c3, hb⟩ := hF
      replace hB := hid (show fieldB f = false from hB.out)
      go_wp2
      go_ret
      exact ⟨ret_bool (by rw [hB.out]), hx.out⟩
  | some d =>
    obtain ⟨L, lo, hi, wr, rd⟩ := d
    go_cut [3, 4] (fun p q wx => ∃ g : Nat, p = .pointer (some ⟨g, 0, none⟩) ∧ q = .bool true ∧ (∀ i v, [.int .u8 L, .int .i64 lo, .int .i64 hi, .func (.func wr) #[] #[], .func (.func rd) #[] #[]][i]? = some v → wx.cell? ⟨g, i, none⟩ = some v) ∧ Hid (Ext w1 wx))
    case first =>
      have xb := (Ext.refl w1).drew_right
      refine region_J (fun w' => Ext w1 w') 10 (by kernel_rfl) ?_
      generalize w1.drew = db at xb ⊢
      refine JR 1 (v := ?vb1) rfl (by kernel_rfl) rfl ?yb1 xb ?rb1
      case yb1 => (intro w hw; (go_simp; with_reducible rfl))
      simp only [Act.put, lyA, lyB, lyC, lyD, lyE, lyF]
      refine JR 2 (v := ?vb2) rfl (by kernel_rfl) rfl ?yb2 xb ?rb2
      case yb2 => (intro w hw; obtain ⟨c0, c1, c2, c3, hb⟩ := hF.ext hw; (go_simp; with_reducible rfl))
      simp only [Act.put, lyA, lyB, lyC, lyD, lyE, lyF]
      refine J_two 0 7 rfl rfl (by kernel_rfl) (fun K hK => ?_) (fun K hK => ?_)
      · go_simp
        refine (kinds_any db).mono ?_
        rintro e wb3 ⟨rb3, rfl, hmb3, hrb3, hxb3⟩
        refine hK _ _ ⟨fun _ => ((xb).trans hxb3), ?_⟩
        clear hK K
        try simp only [Act.put, lyA, lyB, lyC, lyD, lyE, lyF]
        have xb3 := ((xb).trans hxb3)
        refine J_strong (S' := fun w' => Ext w1 w' ∧ IsMap keyI w' rb3 kvK) (fun w h => h.1) ?_
        have ltb3 := hmb3.lt
        refine JR 3 (v := ?vb4) rfl (by kernel_rfl) rfl ?yb4 ⟨xb3, hmb3⟩ ?rb4
        case yb4 => (intro w hw; obtain ⟨hw, hm⟩ := hw; have hlk := look_kinds hm f.k true; simp only [hk, Option.map_some, Option.getD_some, Option.isSome_some, if_true, Kd.v] at hlk; (go_simp; with_reducible rfl))
        simp only [Act.put, lyA, lyB, lyC, lyD, lyE, lyF]
        refine JR 4 (v := ?vb5) rfl (by kernel_rfl) rfl ?yb5 ⟨xb3, hmb3⟩ ?rb5
        case yb5 => (intro w hw; obtain ⟨hw, hm⟩ := hw; (go_simp; with_reducible rfl))
        simp only [Act.put, lyA, lyB, lyC, lyD, lyE, lyF]
        refine JR 5 (v := ?vb6) rfl (by kernel_rfl) rfl ?yb6 ⟨xb3, hmb3⟩ ?rb6
        case yb6 => (intro w hw; obtain ⟨hw, hm⟩ := hw; (go_simp; with_reducible rfl))
        simp only [Act.put, lyA, lyB, lyC, lyD, lyE, lyF]
        refine JR 6 (v := ?vb7) rfl (by kernel_rfl) rfl ?yb7 ⟨xb3, hmb3⟩ ?rb7
        case yb7 => (intro w hw; obtain ⟨hw, hm⟩ := hw; (go_simp; with_reducible rfl))
        simp only [Act.put, lyA, lyB, lyC, lyD, lyE, lyF]
        refine J_one 7 rfl (by kernel_rfl) (fun K hK => ?_)
        go_simp
        obtain ⟨wb8, bb8, eb8, gb8, hb8, cb8, hxb8, lb8⟩ := alloc_at wb3 [.int .u8 0, .int .i64 0, .int .i64 0, .nilFunc, .nilFunc] 175
        simp only [eb8, gb8]
        have zb8 : w1.heap.size ≤ bb8 := by rw [← gb8]; exact (xb3).size
        have yb8 : wb3.heap.size ≤ bb8 := by rw [← gb8]; exact Nat.le_refl _
        clear eb8 gb8 cb8
        refine hK _ _ ⟨fun _ => ⟨((xb3).trans hxb8), (hmb3).ext hxb8⟩, ?_⟩
        clear hK K
        try simp only [Act.put, lyA, lyB, lyC, lyD, lyE, lyF]
        have xb8 := ((xb3).trans hxb8)
        have mb8 := (hmb3).ext hxb8
        refine J_one 8 rfl (by kernel_rfl) (fun K hK => ?_)
        refine step_store0 rfl 175 _ _ rfl bb8 [.int .u8 L, .int .i64 lo, .int .i64 hi, .func (.func wr) #[] #[], .func (.func rd) #[] #[]] rfl rfl hb8 (by kernel_rfl) (by first | rfl | simp [Value.oneCell']) ?_
        obtain ⟨wb9, eb9, hb9, cb9, hxb9, -, hkb9⟩ := store_at (u := w1) [.int .u8 L, .int .i64 lo, .int .i64 hi, .func (.func wr) #[] #[], .func (.func rd) #[] #[]] hb8 (xb8) zb8
        rw [eb9]
        clear eb9
        refine hK _ _ ⟨fun _ => ⟨hxb9, (mb8).keep (hkb9 rb3 (by omega))⟩, ?_⟩
        clear hK K
        try simp only [Act.put, lyA, lyB, lyC, lyD, lyE, lyF]
        have mb9 := (mb8).keep (hkb9 rb3 (by omega))
        refine JR 9 (v := ?vb10) rfl (by kernel_rfl) rfl ?yb10 ⟨hxb9, mb9⟩ ?rb10
        case yb10 => (intro w hw; obtain ⟨hw, hm⟩ := hw; (go_simp; with_reducible rfl))
        simp only [Act.put, lyA, lyB, lyC, lyD, lyE, lyF]
        refine J_done (by kernel_rfl) (OnlyOn.normal ?_)
        clear hF
        go_wp2_with fail
        go_meet
        exact ⟨_, rfl, rfl, cb9, hid (hxb9)⟩
      · go_simp
        obtain ⟨wb11, bb11, eb11, gb11, hb11, cb11, hxb11, lb11⟩ := alloc_at db [.int .u8 0, .int .i64 0, .int .i64 0, .nilFunc, .nilFunc] 175
        simp only [eb11, gb11]
        have zb11 : w1.heap.size ≤ bb11 := by rw [← gb11]; exact (xb).size
        have yb11 : db.heap.size ≤ bb11 := by rw [← gb11]; exact Nat.le_refl _
        clear eb11 gb11 cb11
        refine hK _ _ ⟨fun _ => ((xb).trans hxb11), ?_⟩
        clear hK K
        try simp only [Act.put, lyA, lyB, lyC, lyD, lyE, lyF]
        have xb11 := ((xb).trans hxb11)
        refine J_one 0 rfl (by kernel_rfl) (fun K hK => ?_)
        have hqb12 := hb11
        go_simp
        refine (kinds_any wb11).mono ?_
        rintro e wb12 ⟨rb12, rfl, hmb12, hrb12, hxb12⟩
        refine hK _ _ ⟨fun _ => ((xb11).trans hxb12), ?_⟩
        clear hK K
        try simp only [Act.put, lyA, lyB, lyC, lyD, lyE, lyF]
        replace hb11 := hb11.ext hxb12
        have xb12 := ((xb11).trans hxb12)
        refine J_strong (S' := fun w' => Ext w1 w' ∧ IsMap keyI w' rb12 kvK) (fun w h => h.1) ?_
        have ltb12 : bb11 < rb12 := Nat.lt_of_lt_of_le (HB.lt hqb12) hrb12
        refine JR 3 (v := ?vb13) rfl (by kernel_rfl) rfl ?yb13 ⟨xb12, hmb12⟩ ?rb13
        case yb13 => (intro w hw; obtain ⟨hw, hm⟩ := hw; have hlk := look_kinds hm f.k true; simp only [hk, Option.map_some, Option.getD_some, Option.isSome_some, if_true, Kd.v] at hlk; (go_simp; with_reducible rfl))
        simp only [Act.put, lyA, lyB, lyC, lyD, lyE, lyF]
        refine JR 4 (v := ?vb14) rfl (by kernel_rfl) rfl ?yb14 ⟨xb12, hmb12⟩ ?rb14
        case yb14 => (intro w hw; obtain ⟨hw, hm⟩ := hw; (go_simp; with_reducible rfl))
        simp only [Act.put, lyA, lyB, lyC, lyD, lyE, lyF]
        refine JR 5 (v := ?vb15) rfl (by kernel_rfl) rfl ?yb15 ⟨xb12, hmb12⟩ ?rb15
        case yb15 => (intro w hw; obtain ⟨hw, hm⟩ := hw; (go_simp; with_reducible rfl))
        simp only [Act.put, lyA, lyB, lyC, lyD, lyE, lyF]
        refine JR 6 (v := ?vb16) rfl (by kernel_rfl) rfl ?yb16 ⟨xb12, hmb12⟩ ?rb16
        case yb16 => (intro w hw; obtain ⟨hw, hm⟩ := hw; (go_simp; with_reducible rfl))
        simp only [Act.put, lyA, lyB, lyC, lyD, lyE, lyF]
        refine J_one 8 rfl (by kernel_rfl) (fun K hK => ?_)
        refine step_store0 rfl 175 _ _ rfl bb11 [.int .u8 L, .int .i64 lo, .int .i64 hi, .func (.func wr) #[] #[], .func (.func rd) #[] #[]] rfl rfl hb11 (by kernel_rfl) (by first | rfl | simp [Value.oneCell']) ?_
        obtain ⟨wb17, eb17, hb17, cb17, hxb17, -, hkb17⟩ := store_at (u := w1) [.int .u8 L, .int .i64 lo, .int .i64 hi, .func (.func wr) #[] #[], .func (.func rd) #[] #[]] hb11 (xb12) zb11
        rw [eb17]
        clear eb17
        refine hK _ _ ⟨fun _ => ⟨hxb17, (hmb12).keep (hkb17 rb12 (by omega))⟩, ?_⟩
        clear hK K
        try simp only [Act.put, lyA, lyB, lyC, lyD, lyE, lyF]
        have mb17 := (hmb12).keep (hkb17 rb12 (by omega))
        refine JR 9 (v := ?vb18) rfl (by kernel_rfl) rfl ?yb18 ⟨hxb17, mb17⟩ ?rb18
        case yb18 => (intro w hw; obtain ⟨hw, hm⟩ := hw; (go_simp; with_reducible rfl))
        simp only [Act.put, lyA, lyB, lyC, lyD, lyE, lyF]
        refine J_done (by kernel_rfl) (OnlyOn.normal ?_)
        clear hF
        go_wp2_with fail
        go_meet
        exact ⟨_, rfl, rfl, cb17, hid (hxb17)⟩
    case rest =>
      obtain ⟨g, rfl, rfl, hc, hx1⟩ := hcut
      have g1 := hc 1 _ rfl
      have g2 := hc 2 _ rfl
      have gl := World.block_lt_of_cell? _ _ g1
      replace hF := hF.ext hx1.out
      replace hx := hid (hx.out.trans hx1.out)
      clear hc hx1
      obtain ⟨c0, c1, c2, c3, hb⟩ := hF
      replace hB := hid (show fieldB f = (N && (decide (lo ≤ f.wd) && decide (f.wd ≤ hi))) from hB.out)
      have hbs := hid (fun w hy => F4.ext (b := b) (f := f) (w := wc) (w' := w) ⟨c0, c1, c2, c3, hb⟩ hy)
      go_wp2_with fail
      refine (hN.out wc).mono ?_
      rintro e w5 ⟨rfl, hy⟩
      replace g1 := hy.cell g1
      replace g2 := hy.cell g2
      have hlt := Nat.lt_of_lt_of_le gl hy.size
      clear gl c0 c1 c2 c3 hb
      obtain ⟨c0, c1, c2, c3, hb⟩ := hbs.out w5 hy
      replace hx := hid (hx.out.trans hy)
      clear hy hbs hN
      rcases Bool.eq_false_or_eq_true (decide (lo ≤ f.wd)) with h2 | h2 <;> rcases Bool.eq_false_or_eq_true (decide (f.wd ≤ hi)) with h3 | h3 <;> cases N
      all_goals rw [h2, h3] at hB
      all_goals go_wp2
      all_goals go_ret
      all_goals exact ⟨ret_bool (by rw [hB.out]; rfl), hx.out⟩
open Go.RowKit Go.Shelf
theorem cl102_any (x : Fd) (w : World) : Calls Tryz.prog 102 #[fd x] w (Give (.bool (!fieldB x)) w) := by
  have hF := F4.new w x
  have hx := hid (Ext.new w (.cells #[.string x.nm, .int .i64 x.k, .int .i64 x.wd, .bool x.nl] 64))
  have hI := hid (fun w => isField_any x w)
  generalize fieldB x = B at *
  unfold fd at *
  go_enter Tryz.func102, Tryz.ntmps102
  go_upto_region 1 with fail
  generalize w.alloc (.cells #[.string x.nm, .int .i64 x.k, .int .i64 x.wd, .bool x.nl] 64) = w1 at *
  generalize w.heap.size = b at *
  obtain ⟨c0, c1, c2, c3, hb⟩ := hF
  go_wp2_with fail
  refine (hI.out w1).mono ?_
  rintro e w3 ⟨rfl, hx3⟩
  replace hx := hid (hx.out.trans hx3)
  clear hx3 hI c0 c1 c2 c3
  go_wp2
  go_ret
  exact ⟨rfl, hx.out⟩
def badF (l : List Fd) : Bool := l.any (fun f => !fieldB f)
theorem contF_any (A : Option Addr) (n c : Nat) (l : List Fd) (w : World) (hl : RdF w A n c l) : Calls Tryz.prog 101 #[.slice A n c, .func (.func 102) #[] #[]] w (Give (.bool (badF l)) w) := by
  have hI := hid (ixF102 A n c l (fun f => !fieldB f) w hl (fun x w' _ => cl102_any x w'))
  have hp : Hid (decide (0 ≤ ixF (fun f => !fieldB f) l 0) = badF l) := ixF_pos _ l 0
  generalize ixF (fun f => !fieldB f) l 0 = N at *
  generalize badF l = B at *
  go_enter Tryz.func101, Tryz.ntmps101
  go_wp2_with fail
  refine hI.out.mono ?_
  rintro e w3 ⟨rfl, hx3⟩
  replace hx3 := hid hx3
  clear hI
  go_wp2
  go_ret
  exact ⟨ret_bool (by rw [← hp.out]), hx3.out⟩
theorem length_any (A : Option Addr) (n c : Nat) (l : List Fd) (w : World) (hl : RdF w A n c l) (hn : n ≤ 16) (hw : ∀ i, i < n → 0 ≤ (fth l i).wd ∧ (fth l i).wd ≤ 254) : Calls Tryz.prog 103 #[.slice A n c] w (Give (.int .i64 (lenI l)) w) := by
  have hmx := Rd.max hl
  have hlen := hid hl.len
  have hnb := hid (nullBytes_any A n c l w hl (by omega))
  have hnn : 0 ≤ nulB l ∧ nulB l ≤ 3 := by
    unfold nulB nulI
    have := cnt_le l n
    rw [List.take_of_length_le (by rw [hlen.out]; omega)] at this
    omega
  have hL : Hid (lenI l = 1 + nulB l + widI l) := rfl
  generalize nulB l = z at *
  replace hl := hid hl
  replace hw := hid hw
  go_enter Tryz.func103, Tryz.ntmps103
  go_wp2_with fail
  refine hnb.out.mono ?_
  rintro e w0 ⟨rfl, hx0⟩
  replace hx0 := hid hx0
  clear hnb
  have a0 := IntWalk.i64_in (1 + z) (by omega)
  go_wp2_with fail
  go_loopw [3, 11] (fun v i wr => ∃ k : Nat, k ≤ n ∧ i = .int .i64 k ∧ (∃ m : Int, v = .int .i64 m ∧ 0 ≤ m ∧ m ≤ 1000 + 254 * k ∧ Hid (m = 1 + z + widI (l.take k))) ∧ Hid (Ext w wr)) (fun _ i _ => n - (intOf i).toNat)
  case atStart => exact ⟨0, by omega, rfl, ⟨_, rfl, by omega, by omega, by simp [Hid, widI]⟩, hx0.out⟩
  case round =>
    obtain ⟨k, hk, rfl, ⟨m, rfl, hm0, hm, hc⟩, hx⟩ := hrel
    by_cases hlt : k < n
    · obtain ⟨ad, rfl, x0, x1, x2, x3⟩ := (hl.out.ext hx.out).at_ hlt
      have hs := hid (wid_step l (k := k) (by rw [hlen.out]; exact hlt))
      have hwk := hw.out k hlt
      generalize fth l k = x at *
      have hF := F4.new wr x
      have hx3 := hid (Ext.new wr (.cells #[.string x.nm, .int .i64 x.k, .int .i64 x.wd, .bool x.nl] 64))
      go_upto_region 5 with fail
      generalize wr.alloc (.cells #[.string x.nm, .int .i64 x.k, .int .i64 x.wd, .bool x.nl] 64) = w1 at *
      generalize wr.heap.size = b at *
      obtain ⟨c0, c1, c2, c3, hb⟩ := hF
      replace hx := hid (hx.out.trans hx3.out)
      have a1 := IntWalk.i64_in (m + x.wd) (by omega)
      have hs2 : Hid (m + x.wd = 1 + z + widI (l.take (k + 1))) := by unfold Hid; rw [hs.out, hc.out]; omega
      clear hs hc
      go_wp2
      go_roundw
      case rel => exact ⟨k + 1, by omega, by go_num, ⟨m + x.wd, rfl, by omega, by omega, hs2⟩, hx⟩
      case measure => simp [intOf]; omega
    · obtain rfl : k = n := by omega
      have hN : Hid (lenI l = m) := by
        unfold Hid
        rw [hL.out, hc.out, List.take_of_length_le (by rw [hlen.out]; omega)]
      clear hc
      go_wp2
      go_ret
      exact ⟨ret_int (by rw [hN.out]), hx.out⟩
def dupF (l : List Fd) : Bool := !decide ((l.map (fun f => f.nm)).Nodup)
def vfE (l : List Fd) : Int := if l.length = 0 then 1 else if badF l then 1 else if dupF l then 5 else if 16 < l.length then 3 else if 2000 < lenI l then 3 else 0
def seenK (l : List Fd) : List (ByteArray × Value) := l.map (fun f => (f.nm, .bool true))
theorem seen_snoc (l : List Fd) {k : Nat} (h : k < l.length) : seenK (l.take (k + 1)) = seenK (l.take k) ++ [((fth l k).nm, .bool true)] := by
  unfold seenK
  rw [List.take_succ_eq_append_getElem h, List.map_append, fth_get h]; rfl
def inN (l : List Fd) (s : ByteArray) : Bool := l.any (fun f => decide (f.nm = s))
theorem inN_mem {l : List Fd} {s : ByteArray} : inN l s = true ↔ s ∈ l.map (fun f => f.nm) := by
  unfold inN
  rw [List.any_eq_true, List.mem_map]
  simp
theorem seen_lk : ∀ (l : List Fd) (s : ByteArray), lk (seenK l) s = if inN l s then some (.bool true) else none
  | [], s => by simp [seenK, lk, inN]
  | x :: l, s => by
    have ih := seen_lk l s
    unfold seenK at ih ⊢
    rw [List.map_cons, lk, ih]
    unfold inN
    by_cases h : x.nm = s
    · simp [h]
    · rw [if_neg h]; simp [h]
theorem zeroB (w : World) : (zeroValue 4).run Tryz.prog w = .ok (.bool false) w := by kernel_rfl
theorem look_seen {w : World} {r : Nat} {l : List Fd} (h : IsMap keyS w r (seenK l)) (s : ByteArray) : (Instr.lookup 169 (.map (some r)) (.string s) false).run Tryz.prog w = .ok (.bool (inN l s)) w := by
  have := h.look Tryz.underlying169 (zeroB w) s false
  rw [seen_lk] at this
  refine Eq.trans this ?_
  cases inN l s <;> rfl
theorem dup_at {l : List Fd} {k : Nat} (h : k < l.length) (hm : inN (l.take k) (fth l k).nm = true) : dupF l = true := by
  unfold dupF
  rw [decide_eq_false]; rfl
  intro hn
  rw [← List.take_append_drop k l, List.map_append, List.nodup_append] at hn
  refine hn.2.2 _ (inN_mem.1 hm) (fth l k).nm ?_ rfl
  rw [List.drop_eq_getElem_cons h, fth_get h, List.map_cons]
  exact List.mem_cons_self
theorem nodup_step {l : List Fd} {k : Nat} (h : k < l.length) (hn : ((l.take k).map (fun f => f.nm)).Nodup) (hm : inN (l.take k) (fth l k).nm = false) : ((l.take (k + 1)).map (fun f => f.nm)).Nodup := by
  rw [List.take_succ_eq_append_getElem h, List.map_append, List.nodup_append, ← fth_get h]
  exact ⟨hn, by simp, fun a ha b hb e => by
    have h2 : inN (l.take k) (fth l k).nm = true := inN_mem.2 (by simp at hb; rw [← hb, ← e]; exact ha)
    rw [h2] at hm; cases hm⟩
theorem field_wd {f : Fd} (h : fieldB f = true) : 1 ≤ f.wd ∧ f.wd ≤ 254 := by
  unfold fieldB knd at h
  split at h
  · cases h
  · rename_i d hd
    simp only [Bool.and_eq_true, decide_eq_true_eq] at h
    obtain ⟨_, h1, h2⟩ := h
    revert hd
    (repeat' split) <;> intro hd
    all_goals (first | (injection hd with hd; subst hd; simp only at h1 h2; omega) | cases hd)
theorem bad_no {l : List Fd} (h : badF l = false) {k : Nat} (hk : k < l.length) : fieldB (fth l k) = true := by
  unfold badF at h
  rw [List.any_eq_false] at h
  have := h (fth l k) (by rw [fth_get hk]; exact List.getElem_mem hk)
  simpa using this
theorem ValidateFields_any (A : Option Addr) (n c : Nat) (l : List Fd) (w : World) (hl : RdF w A n c l) : Calls Tryz.prog 63 #[.slice A n c] w (Give (.int .i64 (vfE l)) w) := by
  have hmx := Rd.max hl
  have hlen := hid hl.len
  have hE : Hid (vfE l = if n = 0 then 1 else if badF l then 1 else if dupF l then 5 else if 16 < n then 3 else if 2000 < lenI l then 3 else 0) := by unfold Hid vfE; rw [hlen.out]
  have hc := hid (contF_any A n c l w hl)
  have hL := hid (fun w' (hx : Ext w w') hn hw => length_any A n c l w' (hl.ext hx) hn hw)
  have hmm := @run_makeMap Tryz.prog
  replace hl := hid hl
  by_cases h0 : n = 0
  · subst h0
    replace hE := hid (show vfE l = 1 from hE.out.trans (if_pos rfl))
    go_enter Tryz.func63, Tryz.ntmps63
    go_wp2
    go_ret
    exact ⟨ret_int hE.out.symm, Ext.refl _⟩
  · have h0' : ((n : Int) == 0) = false := by rw [beq_eq_false_iff_ne]; omega
    rw [if_neg h0] at hE
    go_enter Tryz.func63, Tryz.ntmps63
    go_wp2_with fail
    refine hc.out.mono ?_
    rintro e w0 ⟨rfl, hx0⟩
    replace hx0 := hid hx0
    clear hc
    cases hB : badF l with
    | true =>
      rw [hB] at hE
      replace hE := hid (show vfE l = 1 from hE.out)
      clear hB
      go_wp2
      go_ret
      exact ⟨ret_int hE.out.symm, hx0.out⟩
    | false =>
      rw [hB] at hE
      replace hE := hid (show vfE l = if dupF l then 5 else if 16 < n then 3 else if 2000 < lenI l then 3 else 0 from hE.out)
      have hw := hid (fun i (hi : i < n) => field_wd (bad_no hB (k := i) (by rw [hlen.out]; exact hi)))
      clear hB
      go_upto_region 4 with fail
      have m0 : IsMap keyS (w0.alloc (.map #[] 0)) w0.heap.size (seenK (l.take 0)) := IsMap.new w0
      have hx1 := hid (hx0.out.trans (Ext.new w0 (.map #[] 0)))
      have hr := hid hx0.out.size
      generalize w0.alloc (.map #[] 0) = w1 at *
      generalize w0.heap.size = r at *
      clear hx0
      replace m0 := hid m0
      go_wp2_with fail
      go_loopw [16] (fun i wr => ∃ k : Nat, k ≤ n ∧ i = .int .i64 k ∧ Hid (Ext w wr) ∧ Hid (IsMap keyS wr r (seenK (l.take k))) ∧ Hid (((l.take k).map (fun f => f.nm)).Nodup)) (fun i _ => n - (intOf i).toNat)
      case atStart => exact ⟨0, by omega, rfl, hx1, m0, by simp [Hid]⟩
      case round =>
        obtain ⟨k, hk, rfl, hx, hm, hnd⟩ := hrel
        by_cases hlt : k < n
        · obtain ⟨ad, rfl, x0, x1, x2, x3⟩ := (hl.out.ext hx.out).at_ hlt
          have hkl : k < l.length := by rw [hlen.out]; exact hlt
          have hda := hid (dup_at hkl)
          have hns := hid (nodup_step hkl hnd.out)
          have hsn := hid (seen_snoc l hkl)
          clear hnd
          generalize fth l k = x at *
          have hF := F4.new wr x
          have hx3 := hid (Ext.new wr (.cells #[.string x.nm, .int .i64 x.k, .int .i64 x.wd, .bool x.nl] 64))
          go_upto_region 7 with fail
          generalize wr.alloc (.cells #[.string x.nm, .int .i64 x.k, .int .i64 x.wd, .bool x.nl] 64) = w2 at *
          generalize wr.heap.size = b at *
          obtain ⟨c0, c1, c2, c3, hb⟩ := hF
          replace hx := hid (hx.out.trans hx3.out)
          have hm2 := hm.out.ext hx3.out
          have hlk := look_seen hm2 x.nm
          have hls := hid (seen_lk (l.take k) x.nm)
          clear hm hx3 hkl
          rcases Bool.eq_false_or_eq_true (inN (l.take k) x.nm) with hmem | hmem
          · rw [hmem] at hlk
            replace hda := hid (hda.out hmem)
            replace hE := hid (show vfE l = 5 by rw [hE.out, hda.out]; rfl)
            clear hmem hls hns hsn hda hm2
            go_wp2
            go_ret
            exact ⟨ret_int hE.out.symm, hx.out⟩
          · rw [hmem] at hlk
            replace hns := hid (hns.out hmem)
            obtain ⟨w4, hup, hm4, hg4, hs4⟩ := hm2.store (t := 169) Tryz.underlying169 x.nm (.bool true)
            have hm5 : Hid (IsMap keyS w4 r (seenK (l.take (k + 1)))) := by
              unfold up at hm4
              rw [hls.out, hmem, if_neg (by simp)] at hm4
              rw [hsn.out]; exact hm4
            change Sem.run _ (Instr.mapUpdate _ _ (.string x.nm) _) _ = _ at hup
            have hx4 := hid (hx.out.own_grown hg4 hr.out)
            clear hmem hls hsn hda hm2 hm4 hg4 hs4
            go_wp2
            go_roundw
            case rel => exact ⟨k + 1, by omega, by go_num, hx4, hm5, hns⟩
            case measure => simp [intOf]; omega
        · obtain rfl : k = n := by omega
          have hdn : Hid (dupF l = false) := by
            have := hnd.out
            rw [List.take_of_length_le (by rw [hlen.out]; omega)] at this
            unfold Hid dupF
            rw [decide_eq_true this]; rfl
          replace hE := hid (show vfE l = if 16 < k then 3 else if 2000 < lenI l then 3 else 0 by rw [hE.out, hdn.out]; rfl)
          clear hm hnd hdn
          by_cases h16 : 16 < k
          · replace hE := hid (hE.out.trans (if_pos h16))
            have q : (16 : Int) < (k : Int) := by omega
            go_wp2
            go_ret
            exact ⟨ret_int hE.out.symm, hx.out⟩
          · replace hE := hid (hE.out.trans (if_neg h16))
            have q : ¬ (16 : Int) < (k : Int) := by omega
            have hL2 := hid (hL.out wr hx.out (by omega) (fun i hi => by have := hw.out i hi; omega))
            clear hL hw
            generalize lenI l = N at *
            go_wp2_with fail
            refine hL2.out.mono ?_
            rintro e w5 ⟨rfl, hx5⟩
            replace hx := hid (hx.out.trans hx5)
            clear hx5 hL2
            by_cases h2 : 2000 < N
            · replace hE := hid (hE.out.trans (if_pos h2))
              go_wp2
              go_ret
              exact ⟨ret_int hE.out.symm, hx.out⟩
            · replace hE := hid (hE.out.trans (if_neg h2))
              go_wp2
              go_ret
              exact ⟨ret_int hE.out.symm, hx.out⟩
end Go.Proofs.YtngoebbmgpdeiaaGreatDoor
