/-
  All entries of a tree, in order.
-/
import Derived.Test.YtpijfiaecicpfaaBa
namespace Go.Proofs.Ytpijfiaecicpfaa
open Go.RowKit Go.Shelf
set_option linter.unusedVariables false
set_option linter.unusedSimpArgs false
/-- A row that grows, from a start on: what else has turned, and whose blocks are its own. -/
def Gr (f : Nat → Nat) (w w' : World) (o : Value) : Prop := FR f w w' ∧ ∀ a, a < w.heap.size → ob o a ≤ f a
theorem Gr.start (w : World) (v : Value) : Gr (ob v) w w v := ⟨FR.of_ext (Ext.refl w), fun _ _ => Nat.le_refl _⟩
theorem Gr.ext {f : Nat → Nat} {w w1 w2 : World} {o : Value} (h : Gr f w w1 o) (hx : Ext w1 w2) : Gr f w w2 o := ⟨h.1.trans (FR.of_ext (f := f) hx) (fun _ _ h => h), h.2⟩
theorem Gr.trans {f : Nat → Nat} {w w1 w2 : World} {o o' : Value} (h : Gr f w w1 o) (h2 : Gr (ob o) w1 w2 o') : Gr f w w2 o' :=
  ⟨h.1.trans h2.1 (fun k hk h0 => by have := h.2 k hk; omega), fun a ha => Nat.le_trans (h2.2 a (Nat.lt_of_lt_of_le ha h.1.2.2.2.1)) (h.2 a ha)⟩
theorem Gr.push {f : Nat → Nat} {w w1 w2 : World} {o o' : Value} (h : Gr f w w1 o) (hg : w1.grownBy w2 o.ownBlock) (ho : o'.ownBlock = o.ownBlock ∨ ∀ k, o'.ownBlock = some k → w1.heap.size ≤ k) : Gr f w w2 o' := by
  refine ⟨⟨h.1.1.trans hg.os.symm, h.1.2.1.trans hg.tape.symm, h.1.2.2.1.trans hg.output.symm, Nat.le_trans h.1.2.2.2.1 hg.size, fun k hk h0 => ?_⟩, fun a ha => ?_⟩
  · refine (hg.block k (Nat.lt_of_lt_of_le hk h.1.2.2.2.1) (fun e => ?_)).trans (h.1.2.2.2.2 k hk h0)
    have := h.2 k hk
    rw [ob_some e.symm] at this
    omega
  · rcases ho with h1 | h1
    · rw [ob_same h1]; exact h.2 a ha
    · rw [show ob o' a = 0 from if_neg (fun e => by have := h1 a e; have := h.1.2.2.2.1; omega)]; exact Nat.zero_le _
theorem at_own {v : Value} {W W' g : Nat} (h : v.ownBlock = some g ∨ g = W' + 1) (hW : W ≤ W' + 1) (n2 c2 : Nat) : (Value.slice (some ⟨g, 0, none⟩) n2 c2).ownBlock = v.ownBlock ∨ ∀ k, (Value.slice (some ⟨g, 0, none⟩) n2 c2).ownBlock = some k → W ≤ k := by
  rcases h with h | h
  · left; rw [h]; rfl
  · right
    intro k hk
    have : g = k := by simpa [Value.ownBlock] using hk
    omega
/-- The shape of a tree whose leaves are equally deep. -/
def Shw : Nat → BT → Prop
  | 0, .nd l ks => ks = []
  | h + 1, .nd l ks => ks.length = l.length + 1 ∧ ∀ k ∈ ks, Shw h k
theorem Shp.w : ∀ {h : Nat} {T : BT}, Shp h T → Shw h T
  | 0, .nd l ks, hs => hs
  | h + 1, .nd l ks, hs => ⟨hs.1, fun k hk => (hs.2 k hk).2.2.w⟩
def ptF (h : Nat) (l : List Te) (ks : List BT) (k : Nat) : List Te := wvp (l.take k) ((ks.take k).map (flat h))
theorem pt_cut {h : Nat} {l : List Te} {ks : List BT} {k : Nat} {K : BT} (hl : ks.length = l.length + 1) (hk : ks[k]? = some K) : flat (h + 1) (.nd l ks) = ptF h l ks k ++ (flat h K ++ tlW (l.drop k) ((ks.drop (k + 1)).map (flat h))) := by
  obtain ⟨hlt, rfl⟩ := List.getElem?_eq_some_iff.1 hk
  have h1 := flat_cut (h := h) (l1 := l.take k) (l2 := l.drop k) (k1 := ks.take k) (K := ks[k]) (k2 := ks.drop (k + 1)) (by rw [List.length_take, List.length_take]; omega)
  rw [List.take_append_drop, ← list_cut hlt] at h1
  exact h1
theorem wvp_last : ∀ {l : List Te} {m : List (List Te)} {x : Te} {y : List Te}, l.length = m.length → wvp (l ++ [x]) (m ++ [y]) = wvp l m ++ (y ++ [x])
  | [], [], x, y, _ => rfl
  | a :: l, b :: m, x, y, h => by
    rw [List.cons_append, List.cons_append, wvp, wvp, wvp_last (by simpa using h)]
    simp
  | [], _ :: _, _, _, h => by cases h
  | _ :: _, [], _, _, h => by cases h
theorem pt_step {h : Nat} {l : List Te} {ks : List BT} {k : Nat} {K : BT} (hl : ks.length = l.length + 1) (hlt : k < l.length) (hk : ks[k]? = some K) : ptF h l ks (k + 1) = ptF h l ks k ++ (flat h K ++ [tth l k]) := by
  unfold ptF
  rw [List.take_succ_eq_append_getElem hlt, List.take_add_one, hk, tth_get hlt]
  show wvp (l.take k ++ [l[k]]) ((ks.take k ++ [K]).map (flat h)) = _
  rw [List.map_append]
  exact wvp_last (by rw [List.length_map, List.length_take, List.length_take]; omega)
theorem pt_len {h : Nat} {l : List Te} {ks : List BT} {k : Nat} (hl : ks.length = l.length + 1) (hk : k ≤ l.length) : (ptF h l ks k).length ≤ (flat (h + 1) (.nd l ks)).length := by
  have hlt : k < ks.length := by omega
  rw [pt_cut hl (List.getElem?_eq_getElem hlt), List.length_append]
  omega
theorem pt_end {h : Nat} {l : List Te} {ks : List BT} {K : BT} (hl : ks.length = l.length + 1) (hk : ks[l.length]? = some K) : flat (h + 1) (.nd l ks) = ptF h l ks l.length ++ flat h K := by
  rw [pt_cut hl hk, List.drop_length]
  simp [tlW]
theorem tents_snoc (l : List Te) (x : Te) : tents (l ++ [x]) = tents l ++ [.string x.key, .int .i64 x.no] := by rw [tents_append]; simp [tents, tcells]
set_option maxRecDepth 100000 in
set_option maxHeartbeats 4000000 in
theorem all_any : ∀ (h p : Nat) (T : BT) (f : Nat → Nat) (B : Nat) (v : Value) (O : List Te) (w : World), TN w h p T f → Shw h T → (∀ a, 0 < ob v a → f a = 0) → w.ownsRow B 71 2 v O.length (tents O) → B ≤ w.heap.size → O.length + (flat h T).length ≤ 100000 → Calls Try.prog 51 #[.pointer (some ⟨p, 0, none⟩), v] w fun e w' => ∃ v', e = .returned v' ∧ w'.ownsRow B 71 2 v' (O ++ flat h T).length (tents (O ++ flat h T)) ∧ Gr (ob v) w w' v' := by
  obtain ⟨i0, hi0, hz0, hz1, hz2⟩ := info_parts infoN
  intro h
  induction h with
  | zero =>
    intro p T f B v O w hT hs hv hown hB hn
    obtain ⟨l, ks⟩ := T
    obtain ⟨hk, lv, kv, e1, e2, e3, e4⟩ := hT
    obtain ⟨A, c, rfl, hr⟩ := own_rd e2
    obtain ⟨kA, kc, rfl, -⟩ := own_rd e3
    have hmx := Rd.max hr
    have cp0 := node_c0 e1
    have cp1 := node_c1 e1
    have hin : Hid (∀ w', FR (ob v) w w' → w'.cell? ⟨p, 1, none⟩ = some (.slice kA 0 kc) ∧ RdN w' A l.length c l) := fun w' hF => by
      have hz : ∀ a, 0 < f a → ob v a = 0 := fun a ha => by
        rcases Nat.eq_zero_or_pos (ob v a) with h0 | h0
        · exact h0
        · have := hv a h0; omega
      refine ⟨node_c1 ((hF.2.2.2.2 p (Array.getElem?_eq_some_iff.1 e1).1 (hz p (by rw [e4 p, one_self]; omega))).trans e1), Rd.of_own (hF.own e2 (fun k e => hz k (by rw [e4 k, ob_some e]; omega)))⟩
    have hn' : O.length + l.length ≤ 100000 := hn
    have hst := hid (Gr.start w v)
    replace hown := hid hown
    show Calls Try.prog _ _ _ fun e w' => ∃ v', e = .returned v' ∧ w'.ownsRow B 71 2 v' (O ++ l).length (tents (O ++ l)) ∧ Gr (ob v) w w' v'
    clear e1 e2 e3 e4 hr hs hv hn
    go_enter Try.func51, Try.ntmps51
    go_wp2
    go_loopw [1, 12] (fun o i wr => ∃ k : Nat, k ≤ l.length ∧ i = .int .i64 k ∧ Hid (wr.ownsRow B 71 2 o (O ++ l.take k).length (tents (O ++ l.take k))) ∧ Hid (Gr (ob v) w wr o)) (fun _ i _ => l.length - (intOf i).toNat)
    case atStart => exact ⟨0, by omega, rfl, by rw [List.take_zero, List.append_nil]; exact hown.out, hst.out⟩
    case round =>
      obtain ⟨k, hkl, rfl, hown, hG⟩ := hrel
      obtain ⟨Ao, co, rfl, -⟩ := own_form hown.out
      obtain ⟨zk, hr⟩ := hin.out wr hG.out.1
      have hBr : B ≤ wr.heap.size := Nat.le_trans hB hG.out.1.2.2.2.1
      have lzk := World.block_lt_of_cell? _ _ zk
      dsimp only at lzk
      by_cases hlt : k < l.length
      · obtain ⟨ad, rfl, z0, z1⟩ := hr.at_ hlt
        have zk1 := ((Ext.refl wr).alloc_right (.cells #[.string (tth l k).key, .int .i64 (tth l k).no] 71)).cell zk
        have hlen : Hid ((O ++ l.take (k + 1)).length = (O ++ l.take k).length + 1) := by unfold Hid; rw [List.length_append, List.length_append, List.length_take, List.length_take]; omega
        have hlb : (O ++ l.take k).length ≤ 100000 := by rw [List.length_append, List.length_take]; omega
        have hten : Hid (tents (O ++ l.take (k + 1)) = tents (O ++ l.take k) ++ [.string (tth l k).key, .int .i64 (tth l k).no]) := by
          unfold Hid
          rw [List.take_succ_eq_append_getElem hlt, ← List.append_assoc, tents_snoc, tth_get hlt]
        generalize tth l k = x at *
        generalize (O ++ l.take k).length = n at *
        generalize tents (O ++ l.take k) = xs at *
        have hown1 : Hid (∀ o, (wr.alloc o).ownsRow B 71 2 (.slice Ao n co) n xs) := fun o => hown.out.alloc o
        have hG1 := hid (hG.out.ext ((Ext.refl wr).alloc_right (.cells #[.string x.key, .int .i64 x.no] 71)))
        have hB1 : B ≤ (wr.alloc (.cells #[.string x.key, .int .i64 x.no] 71)).heap.size := by simp; omega
        go_wp2_with (at_builtin; refine wpList_push _ rfl _ _ 92 rfl B 71 i0 _ 2 24 Try.underlying92 hi0 hz0 hz1 hz2 rfl (by decide) _ _ _ rfl (hown1.out _) [.string x.key, .int .i64 x.no] (by simp [Act.eval]) rfl (by simp [Value.oneCell']) (by unfold maxLen; omega) (by omega) hB1 ?_)
        intro g2 d2 w2 own2 hg2 hat
        have hG2 := hid (hG1.out.push hg2 (at_own hat (by simp) (n + 1) d2))
        have own3 : Hid (w2.ownsRow B 71 2 (.slice (some ⟨g2, 0, none⟩) (n + 1) d2) (O ++ l.take (k + 1)).length (tents (O ++ l.take (k + 1)))) := by
          unfold Hid
          rw [hlen.out, hten.out]
          exact own2
        clear hg2 hat own2 hlen hten
        go_wp2_with fail
        go_roundw
        case rel => exact ⟨k + 1, by omega, by go_num, own3, hG2⟩
        case measure => simp [intOf]; omega
      · obtain rfl : k = l.length := by omega
        go_wp2
        go_ret
        exact ⟨.slice Ao (O ++ l.take l.length).length co, rfl, by have h9 := hown.out; rw [List.take_length] at h9 ⊢; exact h9, hG.out⟩
  | succ h ih =>
    intro p T f B v O w hT hs hv hown hB hn
    obtain ⟨l, ks⟩ := T
    obtain ⟨lv, kv, ps, g, e1, e2, e3, e5, e4⟩ := hT
    obtain ⟨A, c, rfl, hr⟩ := own_rd e2
    obtain ⟨kA, kc, rfl, hkr⟩ := own_rd e3
    have hmx := Rd.max hr
    have hkmx := Rd.max hkr
    have cp0 := node_c0 e1
    have cp1 := node_c1 e1
    have hkl : ks.length = l.length + 1 := hs.1
    have hpl : ps.length = l.length + 1 := by rw [e5.len, hkl]
    have hin : Hid (∀ w', FR (ob v) w w' → w'.cell? ⟨p, 0, none⟩ = some (.slice A l.length c) ∧ w'.cell? ⟨p, 1, none⟩ = some (.slice kA ps.length kc) ∧ RdN w' A l.length c l ∧ Rd w' 1 kA ps.length kc (ptrs ps)) := fun w' hF => by
      have hz : ∀ a, 0 < f a → ob v a = 0 := fun a ha => by
        rcases Nat.eq_zero_or_pos (ob v a) with h0 | h0
        · exact h0
        · have := hv a h0; omega
      have e1' := (hF.2.2.2.2 p (Array.getElem?_eq_some_iff.1 e1).1 (hz p (by rw [e4 p, one_self]; omega))).trans e1
      exact ⟨node_c0 e1', node_c1 e1', Rd.of_own (hF.own e2 (fun k e => hz k (by rw [e4 k, ob_some e]; omega))), Rd.of_own (hF.own e3 (fun k e => hz k (by rw [e4 k, ob_some e]; omega)))⟩
    have hkid : Hid (∀ (k : Nat) (w' : World) (o : Value) (O' : List Te), k ≤ l.length → Gr (ob v) w w' o → w'.ownsRow B 71 2 o O'.length (tents O') → O'.length = O.length + (ptF h l ks k).length → ∃ q K, ps[k]? = some q ∧ ks[k]? = some K ∧ (ptF h l ks k).length + (flat h K).length ≤ (flat (h + 1) (.nd l ks)).length ∧ Calls Try.prog 51 #[.pointer (some ⟨q, 0, none⟩), o] w' fun e w2 => ∃ v', e = .returned v' ∧ w2.ownsRow B 71 2 v' (O' ++ flat h K).length (tents (O' ++ flat h K)) ∧ Gr (ob o) w' w2 v') := fun k w' o O' hk hG ho hlO => by
      have hlt : k < ks.length := by omega
      have hK := List.getElem?_eq_getElem hlt
      obtain ⟨q, g0, g1, g2, hq, hTK, -, -, hgs⟩ := e5.cut hK
      have hcut := pt_cut (h := h) hkl hK
      have hbd : (ptF h l ks k).length + (flat h ks[k]).length ≤ (flat (h + 1) (.nd l ks)).length := by rw [hcut, List.length_append, List.length_append]; omega
      refine ⟨q, ks[k], hq, hK, hbd, ih q ks[k] g1 B o O' w' ?_ (hs.2 _ (List.getElem_mem hlt)) (fun a ha => ?_) ho (Nat.le_trans hB hG.1.2.2.2.1) (by omega)⟩
      · refine hTK.frame hG.1 (fun a ha => ?_)
        rcases Nat.eq_zero_or_pos (ob v a) with h0 | h0
        · exact h0
        · have := hv a h0; rw [e4 a, hgs a] at this; omega
      · by_cases haw : a < w.heap.size
        · have h1 := hG.2 a haw
          have h2 := hv a (by omega)
          rw [e4 a, hgs a] at h2
          omega
        · exact TN.bound hTK a (by omega)
    have hptl : Hid (∀ k, k ≤ l.length → (ptF h l ks k).length ≤ (flat (h + 1) (.nd l ks)).length) := fun k hk => pt_len hkl hk
    have hst := hid (Gr.start w v)
    replace hown := hid hown
    have hsteps : Hid (∀ k K, k < l.length → ks[k]? = some K → ptF h l ks (k + 1) = ptF h l ks k ++ (flat h K ++ [tth l k])) := fun k K hk hK => pt_step hkl hk hK
    have hends : Hid (∀ K, ks[l.length]? = some K → flat (h + 1) (.nd l ks) = ptF h l ks l.length ++ flat h K) := fun K hK => pt_end hkl hK
    have hpt0 : Hid (ptF h l ks 0 = []) := by unfold Hid ptF; rw [List.take_zero]; rfl
    clear e1 e2 e3 e4 e5 hr hkr hs hv ih
    generalize flat (h + 1) (.nd l ks) = FF at *
    replace hkl := hid hkl
    replace hpl := hid hpl
    go_enter Try.func51, Try.ntmps51
    go_wp2
    go_loopw [1, 12] (fun o i wr => ∃ k : Nat, k ≤ l.length ∧ i = .int .i64 k ∧ Hid (wr.ownsRow B 71 2 o (O ++ ptF h l ks k).length (tents (O ++ ptF h l ks k))) ∧ Hid (Gr (ob v) w wr o)) (fun _ i _ => l.length - (intOf i).toNat)
    case atStart => exact ⟨0, by omega, rfl, by rw [hpt0.out, List.append_nil]; exact hown.out, hst.out⟩
    case round =>
      obtain ⟨k, hkl, rfl, hown, hG⟩ := hrel
      obtain ⟨Ao, co, rfl, -⟩ := own_form hown.out
      obtain ⟨zl, zk, hr, hkr⟩ := hin.out wr hG.out.1
      have hBr : B ≤ wr.heap.size := Nat.le_trans hB hG.out.1.2.2.2.1
      have lzk := World.block_lt_of_cell? _ _ zk
      dsimp only at lzk
      by_cases hlt : k < l.length
      · obtain ⟨ad, rfl, z0, z1⟩ := hr.at_ hlt
        have hxr := (Ext.refl wr).alloc_right (.cells #[.string (tth l k).key, .int .i64 (tth l k).no] 71)
        have hb0 := heap_alloc_new wr (.cells #[.string (tth l k).key, .int .i64 (tth l k).no] 71)
        have hob : Hid (ob (.slice Ao (O ++ ptF h l ks k).length co) wr.heap.size = 0) := own_bound hown.out (Nat.le_refl _)
        obtain ⟨q, K, hq, hK, hbd, hC⟩ := hkid.out k (wr.alloc (.cells #[.string (tth l k).key, .int .i64 (tth l k).no] 71)) _ _ hkl (hG.out.ext hxr) (hxr.own hown.out) (by rw [List.length_append])
        have hst1 := hsteps.out k K hlt hK
        have hlb := hptl.out (k + 1) hlt
        rw [hst1] at hlb
        simp only [List.length_append, List.length_cons, List.length_nil] at hlb
        have hlen : Hid ((O ++ ptF h l ks (k + 1)).length = (O ++ ptF h l ks k ++ flat h K).length + 1) := by unfold Hid; rw [hst1]; simp only [List.length_append, List.length_cons, List.length_nil]; omega
        have hlb2 : (O ++ ptF h l ks k ++ flat h K).length < 100000 := by simp only [List.length_append]; omega
        have hten : Hid (tents (O ++ ptF h l ks (k + 1)) = tents (O ++ ptF h l ks k ++ flat h K) ++ [.string (tth l k).key, .int .i64 (tth l k).no]) := by
          unfold Hid
          rw [hst1, ← tents_snoc]
          congr 1
          simp [List.append_assoc]
        have hC' := hid hC
        have hq' := hid hq
        have hkn : k < ps.length := by rw [hpl.out]; omega
        have hki : (k : Int) < (ps.length : Int) := by omega
        have hk0 : (0 : Int) < (ps.length : Int) := by omega
        obtain ⟨kad, rfl, -⟩ := hkr.2.2.2 (by omega)
        have cq := hxr.cell (rd_ptr hkr hq)
        replace zk := hxr.cell zk
        replace hG := hid (hG.out.ext hxr)
        clear hC hst1 hlb hq hK hbd hkr
        go_upto_region 4 with fail
        generalize tth l k = x at *
        have hsz1 : (wr.alloc (.cells #[.string x.key, .int .i64 x.no] 71)).heap.size = wr.heap.size + 1 := by simp
        clear hown z0 z1 hr hxr
        obtain ⟨b, hbe⟩ : ∃ b, b = wr.heap.size := ⟨_, rfl⟩
        rw [← hbe] at hb0 hob hsz1 lzk
        simp only [← hbe]
        have hBb : B ≤ b := by omega
        generalize wr.alloc (.cells #[.string x.key, .int .i64 x.no] 71) = w1 at *
        clear hbe
        generalize (O ++ ptF h l ks k ++ flat h K).length = n at *
        generalize tents (O ++ ptF h l ks k ++ flat h K) = xs at *
        generalize (O ++ ptF h l ks k).length = n0 at *
        replace hsz1 := hid hsz1
        replace hb0 := hid hb0
        have lt1 := World.block_lt_of_cell? _ _ zk
        dsimp only at lt1
        go_wp2_with fail
        refine hC'.out.mono ?_
        rintro e' w5 ⟨v5, rfl, own5, gr5⟩
        have hown5 := hid own5
        have hG5 := hid gr5
        have hG1 := hid (hG.out.trans gr5)
        clear own5 gr5
        have ho5 := hid hown5.out
        obtain ⟨A5, c5, rfl, -⟩ := own_form ho5.out
        have hb5 : w5.heap[b]? = some (.cells #[.string x.key, .int .i64 x.no] 71 (0, 0)) := (hG5.out.1.2.2.2.2 b (by rw [hsz1.out]; omega) hob.out).trans hb0.out
        have y0 : w5.cell? ⟨b, 0, none⟩ = some (.string x.key) := by rw [Lib.cell_of_heap hb5]; rfl
        have y1 : w5.cell? ⟨b, 1, none⟩ = some (.int .i64 x.no) := by rw [Lib.cell_of_heap hb5]; rfl
        have lb5 := (Array.getElem?_eq_some_iff.1 hb5).1
        have hB5 : B ≤ w5.heap.size := by omega
        clear hb0 hsz1 hG hG5 hown5 hb5 hob zk cq
        go_wp2_with (at_builtin; refine wpList_push _ rfl _ _ 92 rfl B 71 i0 _ 2 24 Try.underlying92 hi0 hz0 hz1 hz2 rfl (by decide) _ _ _ rfl ho5.out [.string x.key, .int .i64 x.no] (by simp [Act.eval]) rfl (by simp [Value.oneCell']) (by unfold maxLen; omega) (by omega) hB5 ?_)
        intro g2 d2 w6 own2 hg2 hat
        have hG2 := hid (hG1.out.push hg2 (at_own hat (by simp) (n + 1) d2))
        have own3 : Hid (w6.ownsRow B 71 2 (.slice (some ⟨g2, 0, none⟩) (n + 1) d2) (O ++ ptF h l ks (k + 1)).length (tents (O ++ ptF h l ks (k + 1)))) := by
          unfold Hid
          rw [hlen.out, hten.out]
          exact own2
        clear hg2 hat own2 hlen hten
        go_wp2_with fail
        go_roundw
        case rel => exact ⟨k + 1, by omega, by go_num, own3, hG2⟩
        case measure => simp [intOf]; omega
      · obtain rfl : k = l.length := by omega
        obtain ⟨q, K, hq, hK, hbd, hC⟩ := hkid.out l.length wr.drew _ _ hkl (hG.out.ext ((Ext.refl wr).drew_right)) (own_drewN hown.out 1) (by rw [List.length_append])
        have hend := hid (hends.out K hK)
        have hC' := hid hC
        have hq' := hid hq
        have hkn : l.length < ps.length := by rw [hpl.out]; omega
        have hki : (l.length : Int) < (ps.length : Int) := by omega
        have hk0 : (0 : Int) < (ps.length : Int) := by omega
        obtain ⟨kad, rfl, -⟩ := hkr.2.2.2 (by omega)
        have cq := rd_ptr hkr hq
        clear hC hq hK hbd hkr hown
        go_upto_region 9 with fail
        have I0 : (fun w' : World => w'.cell? ⟨p, 0, none⟩ = some (.slice A l.length c) ∧ w'.cell? ⟨p, 1, none⟩ = some (.slice (some kad) ps.length kc) ∧ w'.cell? (kad.add l.length) = some (.pointer (some ⟨q, 0, none⟩))) wr.drew := ⟨zl, zk, cq⟩
        refine region_J (fun w' : World => w'.cell? ⟨p, 0, none⟩ = some (.slice A l.length c) ∧ w'.cell? ⟨p, 1, none⟩ = some (.slice (some kad) ps.length kc) ∧ w'.cell? (kad.add l.length) = some (.pointer (some ⟨q, 0, none⟩))) 14 (by kernel_rfl) ?_
        clear zl zk cq
        generalize (O ++ ptF h l ks l.length).length = n0 at *
        generalize hw3 : wr.drew = w3 at *
        replace hG := hid (hG.out.ext ((Ext.refl wr).drew_right))
        rw [hw3] at hG
        refine J_takeO 0 (v := ?vd0) rfl (by kernel_rfl) (by kernel_rfl) (by kernel_rfl) (by kernel_rfl) (fun _ _ _ h => h) (Or.inl ⟨by rfl, ?yd0⟩) I0 ?rd0
        case yd0 => (intro w hSw; obtain ⟨_, _, _⟩ := hSw; (go_simp; with_reducible rfl))
        simp only [Act.put, List.getElem_toArray, List.getElem_cons_zero, List.getElem_cons_succ, List.setIfInBounds_toArray, List.set_cons_zero, List.set_cons_succ]
        refine J_takeO 1 (v := ?vd1) rfl (by kernel_rfl) (by kernel_rfl) (by kernel_rfl) (by kernel_rfl) (fun _ _ _ h => h) (Or.inl ⟨by rfl, ?yd1⟩) I0 ?rd1
        case yd1 => (intro w hSw; obtain ⟨_, _, _⟩ := hSw; (go_simp; with_reducible rfl))
        simp only [Act.put, List.getElem_toArray, List.getElem_cons_zero, List.getElem_cons_succ, List.setIfInBounds_toArray, List.set_cons_zero, List.set_cons_succ]
        refine J_takeO 2 (v := ?vd2) rfl (by kernel_rfl) (by kernel_rfl) (by kernel_rfl) (by kernel_rfl) (fun _ _ _ h => h) (Or.inl ⟨by rfl, ?yd2⟩) I0 ?rd2
        case yd2 => (intro w hSw; obtain ⟨_, _, _⟩ := hSw; (go_simp; with_reducible rfl))
        simp only [Act.put, List.getElem_toArray, List.getElem_cons_zero, List.getElem_cons_succ, List.setIfInBounds_toArray, List.set_cons_zero, List.set_cons_succ]
        refine J_takeO 3 (v := ?vd3) rfl (by kernel_rfl) (by kernel_rfl) (by kernel_rfl) (by kernel_rfl) (fun _ _ _ h => h) (Or.inl ⟨by rfl, ?yd3⟩) I0 ?rd3
        case yd3 => (intro w hSw; obtain ⟨_, _, _⟩ := hSw; (go_simp; with_reducible rfl))
        simp only [Act.put, List.getElem_toArray, List.getElem_cons_zero, List.getElem_cons_succ, List.setIfInBounds_toArray, List.set_cons_zero, List.set_cons_succ]
        refine J_takeO 4 (v := ?vd4) rfl (by kernel_rfl) (by kernel_rfl) (by kernel_rfl) (by kernel_rfl) (fun _ _ _ h => h) (Or.inl ⟨by rfl, ?yd4⟩) I0 ?rd4
        case yd4 => (intro w hSw; obtain ⟨_, _, _⟩ := hSw; (go_simp; with_reducible rfl))
        simp only [Act.put, List.getElem_toArray, List.getElem_cons_zero, List.getElem_cons_succ, List.setIfInBounds_toArray, List.set_cons_zero, List.set_cons_succ]
        refine J_takeO 5 (v := ?vd5) rfl (by kernel_rfl) (by kernel_rfl) (by kernel_rfl) (by kernel_rfl) (fun _ _ _ h => h) (Or.inl ⟨by rfl, ?yd5⟩) I0 ?rd5
        case yd5 => (intro w hSw; obtain ⟨_, _, _⟩ := hSw; (go_simp; with_reducible rfl))
        simp only [Act.put, List.getElem_toArray, List.getElem_cons_zero, List.getElem_cons_succ, List.setIfInBounds_toArray, List.set_cons_zero, List.set_cons_succ]
        refine J_takeO 6 (v := ?vd6) rfl (by kernel_rfl) (by kernel_rfl) (by kernel_rfl) (by kernel_rfl) (fun _ _ _ h => h) (Or.inl ⟨by rfl, ?yd6⟩) I0 ?rd6
        case yd6 => (intro w hSw; obtain ⟨_, _, _⟩ := hSw; (go_simp; with_reducible rfl))
        simp only [Act.put, List.getElem_toArray, List.getElem_cons_zero, List.getElem_cons_succ, List.setIfInBounds_toArray, List.set_cons_zero, List.set_cons_succ]
        refine J_takeO 7 (v := ?vd7) rfl (by kernel_rfl) (by kernel_rfl) (by kernel_rfl) (by kernel_rfl) (fun _ _ _ h => h) (Or.inl ⟨by rfl, ?yd7⟩) I0 ?rd7
        case yd7 => (intro w hSw; obtain ⟨_, _, _⟩ := hSw; (go_simp; with_reducible rfl))
        simp only [Act.put, List.getElem_toArray, List.getElem_cons_zero, List.getElem_cons_succ, List.setIfInBounds_toArray, List.set_cons_zero, List.set_cons_succ]
        refine J_takeO 8 (v := ?vd8) rfl (by kernel_rfl) (by kernel_rfl) (by kernel_rfl) (by kernel_rfl) (fun _ _ _ h => h) (Or.inl ⟨by rfl, ?yd8⟩) I0 ?rd8
        case yd8 => (intro w hSw; obtain ⟨_, _, _⟩ := hSw; (go_simp; with_reducible rfl))
        simp only [Act.put, List.getElem_toArray, List.getElem_cons_zero, List.getElem_cons_succ, List.setIfInBounds_toArray, List.set_cons_zero, List.set_cons_succ]
        refine J_takeO 9 (v := ?vd9) rfl (by kernel_rfl) (by kernel_rfl) (by kernel_rfl) (by kernel_rfl) (fun _ _ _ h => h) (Or.inl ⟨by rfl, ?yd9⟩) I0 ?rd9
        case yd9 => (intro w hSw; obtain ⟨_, _, _⟩ := hSw; (go_simp; with_reducible rfl))
        simp only [Act.put, List.getElem_toArray, List.getElem_cons_zero, List.getElem_cons_succ, List.setIfInBounds_toArray, List.set_cons_zero, List.set_cons_succ]
        refine J_takeO 10 (v := ?vd10) rfl (by kernel_rfl) (by kernel_rfl) (by kernel_rfl) (by kernel_rfl) (fun _ _ _ h => h) (Or.inl ⟨by rfl, ?yd10⟩) I0 ?rd10
        case yd10 => (intro w hSw; obtain ⟨_, _, _⟩ := hSw; (go_simp; with_reducible rfl))
        simp only [Act.put, List.getElem_toArray, List.getElem_cons_zero, List.getElem_cons_succ, List.setIfInBounds_toArray, List.set_cons_zero, List.set_cons_succ]
        refine J_takeO 11 (v := ?vd11) rfl (by kernel_rfl) (by kernel_rfl) (by kernel_rfl) (by kernel_rfl) (fun _ _ _ h => h) (Or.inl ⟨by rfl, ?yd11⟩) I0 ?rd11
        case yd11 => (intro w hSw; obtain ⟨_, _, _⟩ := hSw; (go_simp; with_reducible rfl))
        simp only [Act.put, List.getElem_toArray, List.getElem_cons_zero, List.getElem_cons_succ, List.setIfInBounds_toArray, List.set_cons_zero, List.set_cons_succ]
        refine J_one 12 rfl (by kernel_rfl) (fun K hK => ?_)
        go_simp
        refine hC'.out.mono ?_
        rintro e' w5 ⟨v5, rfl, own5, gr5⟩
        have hown5 := hid own5
        have hG5 := hid gr5
        have hG1 := hid (hG.out.trans gr5)
        clear own5 gr5
        obtain ⟨zl5, zk5, -, hkr5⟩ := hin.out w5 hG1.out.1
        have I5 : (fun w' : World => w'.cell? ⟨p, 0, none⟩ = some (.slice A l.length c) ∧ w'.cell? ⟨p, 1, none⟩ = some (.slice (some kad) ps.length kc) ∧ w'.cell? (kad.add l.length) = some (.pointer (some ⟨q, 0, none⟩))) w5 := ⟨zl5, zk5, rd_ptr hkr5 hq'.out⟩
        clear zl5 zk5 hkr5
        refine hK _ _ ⟨fun _ => I5, ?_⟩
        clear hK K
        try simp only [Act.put, List.getElem_toArray, List.getElem_cons_zero, List.getElem_cons_succ, List.setIfInBounds_toArray, List.set_cons_zero, List.set_cons_succ]
        refine J_one 13 rfl (by kernel_rfl) (fun K hK => ?_)
        go_simp
        refine hK _ _ ⟨fun _ => I5, ?_⟩
        clear hK K
        try simp only [Act.put, List.setIfInBounds_toArray, List.set_cons_zero, List.set_cons_succ]
        refine J_done (by kernel_rfl) (OnlyOn.normal ?_)
        go_wp2
        go_ret
        exact ⟨v5, rfl, by rw [hend.out, ← List.append_assoc, ← List.length_append, ← List.append_assoc]; exact hown5.out, hG1.out⟩
end Go.Proofs.Ytpijfiaecicpfaa
