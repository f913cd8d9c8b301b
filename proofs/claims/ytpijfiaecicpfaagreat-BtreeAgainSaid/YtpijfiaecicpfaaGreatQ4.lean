/-
  All entries of a tree, in order; An index in memory; putting an entry into it; New, Put, all entries of an index, Len; Regions that draw their order and store more than once: what is asked of the world ahead of the stores, and all along. Two rows that grow side by side. Bound to no program.
-/
import Derived.Test.YtpijfiaecicpfaaGreatQ3
import Derived.Test.YtpijfiaecicpfaaGreatQ1
set_option maxRecDepth 100000
set_option maxHeartbeats 40000000
set_option linter.unusedVariables false
set_option linter.unusedSimpArgs false
namespace Go.Proofs.YtpijfiaecicpfaaGreat
open Go.RowKit Go.Shelf
def Gr (f : Nat → Nat) (w w' : World) (o : Value) : Prop := FR f w w' ∧ ∀ a, a < w.heap.size → ob o a ≤ f a
theorem Gr.start (w : World) (v : Value) : Gr (ob v) w w v := ⟨FR.of_ext (Ext.refl w), fun _ _ => Nat.le_refl _⟩
theorem Gr.ext {f : Nat → Nat} {w w1 w2 : World} {o : Value} (h : Gr f w w1 o) (hx : Ext w1 w2) : Gr f w w2 o := ⟨h.1.trans (FR.of_ext (f := f) hx) (fun _ _ h => h), h.2⟩
theorem Gr.trans {f : Nat → Nat} {w w1 w2 : World} {o o' : Value} (h : Gr f w w1 o) (h2 : Gr (ob o) w1 w2 o') : Gr f w w2 o' :=
  ⟨h.1.trans h2.1 (fun k hk h0 => by have := h.2 k hk; omega), fun a ha => Nat.le_trans (h2.2 a (Nat.lt_of_lt_of_le ha h.1.2.2.2.1)) (h.2 a ha)⟩
theorem Gr.push {f : Nat → Nat} {w w1 w2 : World} {o o' : Value} (h : Gr f w w1 o) (hg : w1.grownBy w2 o.ownBlock) (ho : o'.ownBlock = o.ownBlock ∨ ∀ k, o'.ownBlock = some k → w1.heap.size ≤ k) : Gr f w w2 o' := by
  refine ⟨⟨h.1.1.trans hg.os.symm, h.1.2.1.trans hg.tape.symm, h.1.2.2.1.trans hg.output.symm, Nat.le_trans h.1.2.2.2.1 hg.size, fun k hk h0 => ?_⟩, fun a ha => ?_⟩
  · refine (hg.block k (Nat.lt_of_lt_of_le hk h.1.2.2.2.1) (fun e => ?_)).trans (h.1.2.2.2.2 k hk h0)
    have := h.2 k hk
    rw [ob_some e.symm] at this
    omega
  · rcases ho with h1 | h1
    · rw [ob_same h1]; exact h.2 a ha
    · rw [show ob o' a = 0 from if_neg (fun e => by have := h1 a e; have := h.1.2.2.2.1; omega)]; exact Nat.zero_le _
theorem at_own {v : Value} {W W' g : Nat} (h : v.ownBlock = some g ∨ g = W' + 1) (hW : W ≤ W' + 1) (n2 c2 : Nat) : (Value.slice (some ⟨g, 0, none⟩) n2 c2).ownBlock = v.ownBlock ∨ ∀ k, (Value.slice (some ⟨g, 0, none⟩) n2 c2).ownBlock = some k → W ≤ k := by
  rcases h with h | h
  · left; rw [h]; rfl
  · right
    intro k hk
    have : g = k := by simpa [Value.ownBlock] using hk
    omega
def Shw : Nat → BT → Prop
  | 0, .nd l ks => ks = []
  | h + 1, .nd l ks => ks.length = l.length + 1 ∧ ∀ k ∈ ks, Shw h k
theorem Shp.w : ∀ {h : Nat} {T : BT}, Shp h T → Shw h T
  | 0, .nd l ks, hs => hs
  | h + 1, .nd l ks, hs => ⟨hs.1, fun k hk => (hs.2 k hk).2.2.w⟩
def ptF (h : Nat) (l : List Te) (ks : List BT) (k : Nat) : List Te := wvp (l.take k) ((ks.take k).map (flat h))
theorem pt_cut {h : Nat} {l : List Te} {ks : List BT} {k : Nat} {K : BT} (hl : ks.length = l.length + 1) (hk : ks[k]? = some K) : flat (h + 1) (.nd l ks) = ptF h l ks k ++ (flat h K ++ tlW (l.drop k) ((ks.drop (k + 1)).map (flat h))) := by
  obtain ⟨hlt, rfl⟩ := List.getElem?_eq_some_iff.1 hk
  have h1 := flat_cut (h := h) (l1 := l.take k) (l2 := l.drop k) (k1 := ks.take k) (K := ks[k]) (k2 := ks.drop (k + 1)) (by rw [List.length_take, List.length_take]; omega)
  rw [List.take_append_drop, ← list_cut hlt] at h1
  exact h1
theorem wvp_last : ∀ {l : List Te} {m : List (List Te)} {x : Te} {y : List Te}, l.length = m.length → wvp (l ++ [x]) (m ++ [y]) = wvp l m ++ (y ++ [x])
  | [], [], x, y, _ => rfl
  | a :: l, b :: m, x, y, h => by
    rw [List.cons_append, List.cons_append, wvp, wvp, wvp_last (by simpa using h)]
    simp
  | [], _ :: _, _, _, h => by cases h
  | _ :: _, [], _, _, h => by cases h
theorem pt_step {h : Nat} {l : List Te} {ks : List BT} {k : Nat} {K : BT} (hl : ks.length = l.length + 1) (hlt : k < l.length) (hk : ks[k]? = some K) : ptF h l ks (k + 1) = ptF h l ks k ++ (flat h K ++ [tth l k]) := by
  unfold ptF
  rw [List.take_succ_eq_append_getElem hlt, List.take_add_one, hk, tth_get hlt]
  show wvp (l.take k ++ [l[k]]) ((ks.take k ++ [K]).map (flat h)) = _
  rw [List.map_append]
  exact wvp_last (by rw [List.length_map, List.length_take, List.length_take]; omega)
theorem pt_len {h : Nat} {l : List Te} {ks : List BT} {k : Nat} (hl : ks.length = l.length + 1) (hk : k ≤ l.length) : (ptF h l ks k).length ≤ (flat (h + 1) (.nd l ks)).length := by
  have hlt : k < ks.length := by omega
  rw [pt_cut hl (List.getElem?_eq_getElem hlt), List.length_append]
  omega
theorem pt_end {h : Nat} {l : List Te} {ks : List BT} {K : BT} (hl : ks.length = l.length + 1) (hk : ks[l.length]? = some K) : flat (h + 1) (.nd l ks) = ptF h l ks l.length ++ flat h K := by
  rw [pt_cut hl hk, List.drop_length]
  simp [tlW]
theorem tents_snoc (l : List Te) (x : Te) : tents (l ++ [x]) = tents l ++ [.string x.key, .int .i64 x.no] := by rw [tents_append]; simp [tents, tcells]
theorem all_any : ∀ (h p : Nat) (T : BT) (f : Nat → Nat) (B : Nat) (v : Value) (O : List Te) (w : World), TN w h p T f → Shw h T → (∀ a, 0 < ob v a → f a = 0) → w.ownsRow B 83 2 v O.length (tents O) → B ≤ w.heap.size → O.length + (flat h T).length ≤ 100000 → Calls Tryz.prog 65 #[.pointer (some ⟨p, 0, none⟩), v] w fun e w' => ∃ v', e = .returned v' ∧ w'.ownsRow B 83 2 v' (O ++ flat h T).length (tents (O ++ flat h T)) ∧ Gr (ob v) w w' v' := by
  obtain ⟨i0, hi0, hz0, hz1, hz2⟩ := info_parts infoN
  intro h
  induction h with
  | zero =>
    intro p T f B v O w hT hs hv hown hB hn
    obtain ⟨l, ks⟩ := T
    obtain ⟨hk, lv, kv, e1, e2, e3, e4⟩ := hT
    obtain ⟨A, c, rfl, hr⟩ := own_rd e2
    obtain ⟨kA, kc, rfl, -⟩ := own_rd e3
    have hmx := Rd.max hr
    have cp0 := node_c0 e1
    have cp1 := node_c1 e1
    have hin : Hid (∀ w', FR (ob v) w w' → w'.cell? ⟨p, 1, none⟩ = some (.slice kA 0 kc) ∧ RdN w' A l.length c l) := fun w' hF => by
      have hz : ∀ a, 0 < f a → ob v a = 0 := fun a ha => by
        rcases Nat.eq_zero_or_pos (ob v a) with h0 | h0
        · exact h0
        · have := hv a h0; omega
      refine ⟨node_c1 ((hF.2.2.2.2 p (Array.getElem?_eq_some_iff.1 e1).1 (hz p (by rw [e4 p, one_self]; omega))).trans e1), Rd.of_own (hF.own e2 (fun k e => hz k (by rw [e4 k, ob_some e]; omega)))⟩
    have hn' : O.length + l.length ≤ 100000 := hn
    have hst := hid (Gr.start w v)
    replace hown := hid hown
    show Calls Tryz.prog _ _ _ fun e w' => ∃ v', e = .returned v' ∧ w'.ownsRow B 83 2 v' (O ++ l).length (tents (O ++ l)) ∧ Gr (ob v) w w' v'
    clear e1 e2 e3 e4 hr hs hv hn
    go_enter Tryz.func65, Tryz.ntmps65
    go_wp2
    go_loopw [1, 12] (fun o i wr => ∃ k : Nat, k ≤ l.length ∧ i = .int .i64 k ∧ Hid (wr.ownsRow B 83 2 o (O ++ l.take k).length (tents (O ++ l.take k))) ∧ Hid (Gr (ob v) w wr o)) (fun _ i _ => l.length - (intOf i).toNat)
    case atStart => exact ⟨0, by omega, rfl, by rw [List.take_zero, List.append_nil]; exact hown.out, hst.out⟩
    case round =>
      obtain ⟨k, hkl, rfl, hown, hG⟩ := hrel
      obtain ⟨Ao, co, rfl, -⟩ := own_form hown.out
      obtain ⟨zk, hr⟩ := hin.out wr hG.out.1
      have hBr : B ≤ wr.heap.size := Nat.le_trans hB hG.out.1.2.2.2.1
      have lzk := World.block_lt_of_cell? _ _ zk
      dsimp only at lzk
      by_cases hlt : k < l.length
      · obtain ⟨ad, rfl, z0, z1⟩ := hr.at_ hlt
        have zk1 := ((Ext.refl wr).alloc_right (.cells #[.string (tth l k).key, .int .i64 (tth l k).no] 83)).cell zk
        have hlen : Hid ((O ++ l.take (k + 1)).length = (O ++ l.take k).length + 1) := by unfold Hid; rw [List.length_append, List.length_append, List.length_take, List.length_take]; omega
        have hlb : (O ++ l.take k).length ≤ 100000 := by rw [List.length_append, List.length_take]; omega
        have hten : Hid (tents (O ++ l.take (k + 1)) = tents (O ++ l.take k) ++ [.string (tth l k).key, .int .i64 (tth l k).no]) := by
          unfold Hid
          rw [List.take_succ_eq_append_getElem hlt, ← List.append_assoc, tents_snoc, tth_get hlt]
        generalize tth l k = x at *
        generalize (O ++ l.take k).length = n at *
        generalize tents (O ++ l.take k) = xs at *
        have hown1 : Hid (∀ o, (wr.alloc o).ownsRow B 83 2 (.slice Ao n co) n xs) := fun o => hown.out.alloc o
        have hG1 := hid (hG.out.ext ((Ext.refl wr).alloc_right (.cells #[.string x.key, .int .i64 x.no] 83)))
        have hB1 : B ≤ (wr.alloc (.cells #[.string x.key, .int .i64 x.no] 83)).heap.size := by simp; omega
        go_wp2_with (at_builtin; refine wpList_push _ rfl _ _ 52 rfl B 83 i0 _ 2 24 Tryz.underlying52 hi0 hz0 hz1 hz2 rfl (by decide) _ _ _ rfl (hown1.out _) [.string x.key, .int .i64 x.no] (by simp [Act.eval]) rfl (by simp [Value.oneCell']) (by unfold maxLen; omega) (by omega) hB1 ?_)
        intro g2 d2 w2 own2 hg2 hat
        have hG2 := hid (hG1.out.push hg2 (at_own hat (by simp) (n + 1) d2))
        have own3 : Hid (w2.ownsRow B 83 2 (.slice (some ⟨g2, 0, none⟩) (n + 1) d2) (O ++ l.take (k + 1)).length (tents (O ++ l.take (k + 1)))) := by
          unfold Hid
          rw [hlen.out, hten.out]
          exact own2
        clear hg2 hat own2 hlen hten
        go_wp2_with fail
        go_roundw
        case rel => exact ⟨k + 1, by omega, by go_num, own3, hG2⟩
        case measure => simp [intOf]; omega
      · obtain rfl : k = l.length := by omega
        go_wp2
        go_ret
        exact ⟨.slice Ao (O ++ l.take l.length).length co, rfl, by have h9 := hown.out; rw [List.take_length] at h9 ⊢; exact h9, hG.out⟩
  | succ h ih =>
    intro p T f B v O w hT hs hv hown hB hn
    obtain ⟨l, ks⟩ := T
    obtain ⟨lv, kv, ps, g, e1, e2, e3, e5, e4⟩ := hT
    obtain ⟨A, c, rfl, hr⟩ := own_rd e2
    obtain ⟨kA, kc, rfl, hkr⟩ := own_rd e3
    have hmx := Rd.max hr
    have hkmx := Rd.max hkr
    have cp0 := node_c0 e1
    have cp1 := node_c1 e1
    have hkl : ks.length = l.length + 1 := hs.1
    have hpl : ps.length = l.length + 1 := by rw [e5.len, hkl]
    have hin : Hid (∀ w', FR (ob v) w w' → w'.cell? ⟨p, 0, none⟩ = some (.slice A l.length c) ∧ w'.cell? ⟨p, 1, none⟩ = some (.slice kA ps.length kc) ∧ RdN w' A l.length c l ∧ Rd w' 1 kA ps.length kc (ptrs ps)) := fun w' hF => by
      have hz : ∀ a, 0 < f a → ob v a = 0 := fun a ha => by
        rcases Nat.eq_zero_or_pos (ob v a) with h0 | h0
        · exact h0
        · have := hv a h0; omega
      have e1' := (hF.2.2.2.2 p (Array.getElem?_eq_some_iff.1 e1).1 (hz p (by rw [e4 p, one_self]; omega))).trans e1
      exact ⟨node_c0 e1', node_c1 e1', Rd.of_own (hF.own e2 (fun k e => hz k (by rw [e4 k, ob_some e]; omega))), Rd.of_own (hF.own e3 (fun k e => hz k (by rw [e4 k, ob_some e]; omega)))⟩
    have hkid : Hid (∀ (k : Nat) (w' : World) (o : Value) (O' : List Te), k ≤ l.length → Gr (ob v) w w' o → w'.ownsRow B 83 2 o O'.length (tents O') → O'.length = O.length + (ptF h l ks k).length → ∃ q K, ps[k]? = some q ∧ ks[k]? = some K ∧ (ptF h l ks k).length + (flat h K).length ≤ (flat (h + 1) (.nd l ks)).length ∧ Calls Tryz.prog 65 #[.pointer (some ⟨q, 0, none⟩), o] w' fun e w2 => ∃ v', e = .returned v' ∧ w2.ownsRow B 83 2 v' (O' ++ flat h K).length (tents (O' ++ flat h K)) ∧ Gr (ob o) w' w2 v') := fun k w' o O' hk hG ho hlO => by
      have hlt : k < ks.length := by omega
      have hK := List.getElem?_eq_getElem hlt
      obtain ⟨q, g0, g1, g2, hq, hTK, -, -, hgs⟩ := e5.cut hK
      have hcut := pt_cut (h := h) hkl hK
      have hbd : (ptF h l ks k).length + (flat h ks[k]).length ≤ (flat (h + 1) (.nd l ks)).length := by rw [hcut, List.length_append, List.length_append]; omega
      refine ⟨q, ks[k], hq, hK, hbd, ih q ks[k] g1 B o O' w' ?_ (hs.2 _ (List.getElem_mem hlt)) (fun a ha => ?_) ho (Nat.le_trans hB hG.1.2.2.2.1) (by omega)⟩
      · refine hTK.frame hG.1 (fun a ha => ?_)
        rcases Nat.eq_zero_or_pos (ob v a) with h0 | h0
        · exact h0
        · have := hv a h0; rw [e4 a, hgs a] at this; omega
      · by_cases haw : a < w.heap.size
        · have h1 := hG.2 a haw
          have h2 := hv a (by omega)
          rw [e4 a, hgs a] at h2
          omega
        · exact TN.bound hTK a (by omega)
    have hptl : Hid (∀ k, k ≤ l.length → (ptF h l ks k).length ≤ (flat (h + 1) (.nd l ks)).length) := fun k hk => pt_len hkl hk
    have hst := hid (Gr.start w v)
    replace hown := hid hown
    have hsteps : Hid (∀ k K, k < l.length → ks[k]? = some K → ptF h l ks (k + 1) = ptF h l ks k ++ (flat h K ++ [tth l k])) := fun k K hk hK => pt_step hkl hk hK
    have hends : Hid (∀ K, ks[l.length]? = some K → flat (h + 1) (.nd l ks) = ptF h l ks l.length ++ flat h K) := fun K hK => pt_end hkl hK
    have hpt0 : Hid (ptF h l ks 0 = []) := by unfold Hid ptF; rw [List.take_zero]; rfl
    clear e1 e2 e3 e4 e5 hr hkr hs hv ih
    generalize flat (h + 1) (.nd l ks) = FF at *
    replace hkl := hid hkl
    replace hpl := hid hpl
    go_enter Tryz.func65, Tryz.ntmps65
    go_wp2
    go_loopw [1, 12] (fun o i wr => ∃ k : Nat, k ≤ l.length ∧ i = .int .i64 k ∧ Hid (wr.ownsRow B 83 2 o (O ++ ptF h l ks k).length (tents (O ++ ptF h l ks k))) ∧ Hid (Gr (ob v) w wr o)) (fun _ i _ => l.length - (intOf i).toNat)
    case atStart => exact ⟨0, by omega, rfl, by rw [hpt0.out, List.append_nil]; exact hown.out, hst.out⟩
    case round =>
      obtain ⟨k, hkl, rfl, hown, hG⟩ := hrel
      obtain ⟨Ao, co, rfl, -⟩ := own_form hown.out
      obtain ⟨zl, zk, hr, hkr⟩ := hin.out wr hG.out.1
      have hBr : B ≤ wr.heap.size := Nat.le_trans hB hG.out.1.2.2.2.1
      have lzk := World.block_lt_of_cell? _ _ zk
      dsimp only at lzk
      by_cases hlt : k < l.length
      · obtain ⟨ad, rfl, z0, z1⟩ := hr.at_ hlt
        have hxr := (Ext.refl wr).alloc_right (.cells #[.string (tth l k).key, .int .i64 (tth l k).no] 83)
        have hb0 := heap_alloc_new wr (.cells #[.string (tth l k).key, .int .i64 (tth l k).no] 83)
        have hob : Hid (ob (.slice Ao (O ++ ptF h l ks k).length co) wr.heap.size = 0) := own_bound hown.out (Nat.le_refl _)
        obtain ⟨q, K, hq, hK, hbd, hC⟩ := hkid.out k (wr.alloc (.cells #[.string (tth l k).key, .int .i64 (tth l k).no] 83)) _ _ hkl (hG.out.ext hxr) (hxr.own hown.out) (by rw [List.length_append])
        have hst1 := hsteps.out k K hlt hK
        have hlb := hptl.out (k + 1) hlt
        rw [hst1] at hlb
        simp only [List.length_append, List.length_cons, List.length_nil] at hlb
        have hlen : Hid ((O ++ ptF h l ks (k + 1)).length = (O ++ ptF h l ks k ++ flat h K).length + 1) := by unfold Hid; rw [hst1]; simp only [List.length_append, List.length_cons, List.length_nil]; omega
        have hlb2 : (O ++ ptF h l ks k ++ flat h K).length < 100000 := by simp only [List.length_append]; omega
        have hten : Hid (tents (O ++ ptF h l ks (k + 1)) = tents (O ++ ptF h l ks k ++ flat h K) ++ [.string (tth l k).key, .int .i64 (tth l k).no]) := by
          unfold Hid
          rw [hst1, ← tents_snoc]
          congr 1
          simp [List.append_assoc]
        have hC' := hid hC
        have hq' := hid hq
        have hkn : k < ps.length := by rw [hpl.out]; omega
        have hki : (k : Int) < (ps.length : Int) := by omega
        have hk0 : (0 : Int) < (ps.length : Int) := by omega
        obtain ⟨kad, rfl, -⟩ := hkr.2.2.2 (by omega)
        have cq := hxr.cell (rd_ptr hkr hq)
        replace zk := hxr.cell zk
        replace hG := hid (hG.out.ext hxr)
        clear hC hst1 hlb hq hK hbd hkr
        go_upto_region 4 with fail
        generalize tth l k = x at *
        have hsz1 : (wr.alloc (.cells #[.string x.key, .int .i64 x.no] 83)).heap.size = wr.heap.size + 1 := by simp
        clear hown z0 z1 hr hxr
        obtain ⟨b, hbe⟩ : ∃ b, b = wr.heap.size := ⟨_, rfl⟩
        rw [← hbe] at hb0 hob hsz1 lzk
        simp only [← hbe]
        have hBb : B ≤ b := by omega
        generalize wr.alloc (.cells #[.string x.key, .int .i64 x.no] 83) = w1 at *
        clear hbe
        generalize (O ++ ptF h l ks k ++ flat h K).length = n at *
        generalize tents (O ++ ptF h l ks k ++ flat h K) = xs at *
        generalize (O ++ ptF h l ks k).length = n0 at *
        replace hsz1 := hid hsz1
        replace hb0 := hid hb0
        have lt1 := World.block_lt_of_cell? _ _ zk
        dsimp only at lt1
        go_wp2_with fail
        refine hC'.out.mono ?_
        rintro e' w5 ⟨v5, rfl, own5, gr5⟩
        have hown5 := hid own5
        have hG5 := hid gr5
        have hG1 := hid (hG.out.trans gr5)
        clear own5 gr5
        have ho5 := hid hown5.out
        obtain ⟨A5, c5, rfl, -⟩ := own_form ho5.out
        have hb5 : w5.heap[b]? = some (.cells #[.string x.key, .int .i64 x.no] 83 (0, 0)) := (hG5.out.1.2.2.2.2 b (by rw [hsz1.out]; omega) hob.out).trans hb0.out
        have y0 : w5.cell? ⟨b, 0, none⟩ = some (.string x.key) := by rw [Lib.cell_of_heap hb5]; rfl
        have y1 : w5.cell? ⟨b, 1, none⟩ = some (.int .i64 x.no) := by rw [Lib.cell_of_heap hb5]; rfl
        have lb5 := (Array.getElem?_eq_some_iff.1 hb5).1
        have hB5 : B ≤ w5.heap.size := by omega
        clear hb0 hsz1 hG hG5 hown5 hb5 hob zk cq
        go_wp2_with (at_builtin; refine wpList_push _ rfl _ _ 52 rfl B 83 i0 _ 2 24 Tryz.underlying52 hi0 hz0 hz1 hz2 rfl (by decide) _ _ _ rfl ho5.out [.string x.key, .int .i64 x.no] (by simp [Act.eval]) rfl (by simp [Value.oneCell']) (by unfold maxLen; omega) (by omega) hB5 ?_)
        intro g2 d2 w6 own2 hg2 hat
        have hG2 := hid (hG1.out.push hg2 (at_own hat (by simp) (n + 1) d2))
        have own3 : Hid (w6.ownsRow B 83 2 (.slice (some ⟨g2, 0, none⟩) (n + 1) d2) (O ++ ptF h l ks (k + 1)).length (tents (O ++ ptF h l ks (k + 1)))) := by
          unfold Hid
          rw [hlen.out, hten.out]
          exact own2
        clear hg2 hat own2 hlen hten
        go_wp2_with fail
        go_roundw
        case rel => exact ⟨k + 1, by omega, by go_num, own3, hG2⟩
        case measure => simp [intOf]; omega
      · obtain rfl : k = l.length := by omega
        obtain ⟨q, K, hq, hK, hbd, hC⟩ := hkid.out l.length wr.drew _ _ hkl (hG.out.ext ((Ext.refl wr).drew_right)) (own_drewN hown.out 1) (by rw [List.length_append])
        have hend := hid (hends.out K hK)
        have hC' := hid hC
        have hq' := hid hq
        have hkn : l.length < ps.length := by rw [hpl.out]; omega
        have hki : (l.length : Int) < (ps.length : Int) := by omega
        have hk0 : (0 : Int) < (ps.length : Int) := by omega
        obtain ⟨kad, rfl, -⟩ := hkr.2.2.2 (by omega)
        have cq := rd_ptr hkr hq
        clear hC hq hK hbd hkr hown
        go_upto_region 9 with fail
        have I0 : (fun w' : World => w'.cell? ⟨p, 0, none⟩ = some (.slice A l.length c) ∧ w'.cell? ⟨p, 1, none⟩ = some (.slice (some kad) ps.length kc) ∧ w'.cell? (kad.add l.length) = some (.pointer (some ⟨q, 0, none⟩))) wr.drew := ⟨zl, zk, cq⟩
        refine region_J (fun w' : World => w'.cell? ⟨p, 0, none⟩ = some (.slice A l.length c) ∧ w'.cell? ⟨p, 1, none⟩ = some (.slice (some kad) ps.length kc) ∧ w'.cell? (kad.add l.length) = some (.pointer (some ⟨q, 0, none⟩))) 14 (by kernel_rfl) ?_
        clear zl zk cq
        generalize (O ++ ptF h l ks l.length).length = n0 at *
        generalize hw3 : wr.drew = w3 at *
        replace hG := hid (hG.out.ext ((Ext.refl wr).drew_right))
        rw [hw3] at hG
        refine JO 0 (v := ?vd0) I0 ?yd0 ?rd0
        case yd0 => (intro w h; obtain ⟨_, _, _⟩ := h; go_simp; with_reducible rfl)
        simp only [Act.put, lyA, lyB, lyC, lyD, lyE, lyF]
        refine JO 1 (v := ?vd1) I0 ?yd1 ?rd1
        case yd1 => (intro w h; obtain ⟨_, _, _⟩ := h; go_simp; with_reducible rfl)
        simp only [Act.put, lyA, lyB, lyC, lyD, lyE, lyF]
        refine JO 2 (v := ?vd2) I0 ?yd2 ?rd2
        case yd2 => (intro w h; obtain ⟨_, _, _⟩ := h; go_simp; with_reducible rfl)
        simp only [Act.put, lyA, lyB, lyC, lyD, lyE, lyF]
        refine JO 3 (v := ?vd3) I0 ?yd3 ?rd3
        case yd3 => (intro w h; obtain ⟨_, _, _⟩ := h; go_simp; with_reducible rfl)
        simp only [Act.put, lyA, lyB, lyC, lyD, lyE, lyF]
        refine JO 4 (v := ?vd4) I0 ?yd4 ?rd4
        case yd4 => (intro w h; obtain ⟨_, _, _⟩ := h; go_simp; with_reducible rfl)
        simp only [Act.put, lyA, lyB, lyC, lyD, lyE, lyF]
        refine JO 5 (v := ?vd5) I0 ?yd5 ?rd5
        case yd5 => (intro w h; obtain ⟨_, _, _⟩ := h; go_simp; with_reducible rfl)
        simp only [Act.put, lyA, lyB, lyC, lyD, lyE, lyF]
        refine JO 6 (v := ?vd6) I0 ?yd6 ?rd6
        case yd6 => (intro w h; obtain ⟨_, _, _⟩ := h; go_simp; with_reducible rfl)
        simp only [Act.put, lyA, lyB, lyC, lyD, lyE, lyF]
        refine JO 7 (v := ?vd7) I0 ?yd7 ?rd7
        case yd7 => (intro w h; obtain ⟨_, _, _⟩ := h; go_simp; with_reducible rfl)
        simp only [Act.put, lyA, lyB, lyC, lyD, lyE, lyF]
        refine JO 8 (v := ?vd8) I0 ?yd8 ?rd8
        case yd8 => (intro w h; obtain ⟨_, _, _⟩ := h; go_simp; with_reducible rfl)
        simp only [Act.put, lyA, lyB, lyC, lyD, lyE, lyF]
        refine JO 9 (v := ?vd9) I0 ?yd9 ?rd9
        case yd9 => (intro w h; obtain ⟨_, _, _⟩ := h; go_simp; with_reducible rfl)
        simp only [Act.put, lyA, lyB, lyC, lyD, lyE, lyF]
        refine JO 10 (v := ?vd10) I0 ?yd10 ?rd10
        case yd10 => (intro w h; obtain ⟨_, _, _⟩ := h; go_simp; with_reducible rfl)
        simp only [Act.put, lyA, lyB, lyC, lyD, lyE, lyF]
        refine JO 11 (v := ?vd11) I0 ?yd11 ?rd11
        case yd11 => (intro w h; obtain ⟨_, _, _⟩ := h; go_simp; with_reducible rfl)
        simp only [Act.put, lyA, lyB, lyC, lyD, lyE, lyF]
        refine J_one 12 rfl (by kernel_rfl) (fun K hK => ?_)
        go_simp
        refine hC'.out.mono ?_
        rintro e' w5 ⟨v5, rfl, own5, gr5⟩
        have hown5 := hid own5
        have hG5 := hid gr5
        have hG1 := hid (hG.out.trans gr5)
        clear own5 gr5
        obtain ⟨zl5, zk5, -, hkr5⟩ := hin.out w5 hG1.out.1
        have I5 : (fun w' : World => w'.cell? ⟨p, 0, none⟩ = some (.slice A l.length c) ∧ w'.cell? ⟨p, 1, none⟩ = some (.slice (some kad) ps.length kc) ∧ w'.cell? (kad.add l.length) = some (.pointer (some ⟨q, 0, none⟩))) w5 := ⟨zl5, zk5, rd_ptr hkr5 hq'.out⟩
        clear zl5 zk5 hkr5
        refine hK _ _ ⟨fun _ => I5, ?_⟩
        clear hK K
        try simp only [Act.put, lyA, lyB, lyC, lyD, lyE, lyF]
        refine J_one 13 rfl (by kernel_rfl) (fun K hK => ?_)
        go_simp
        refine hK _ _ ⟨fun _ => I5, ?_⟩
        clear hK K
        try simp only [Act.put, lyD, lyE, lyF]
        refine J_done (by kernel_rfl) (OnlyOn.normal ?_)
        go_wp2
        go_ret
        exact ⟨v5, rfl, by rw [hend.out, ← List.append_assoc, ← List.length_append, ← List.append_assoc]; exact hown5.out, hG1.out⟩
open Go.RowKit Go.Shelf
def virgin (ex : Nat → Bool) (listed : Array Bool) : Bool := (List.range listed.size).all fun j => !(ex j) || !(listed.getD j true)
theorem virgin_iff {ex : Nat → Bool} {listed : Array Bool} : virgin ex listed = true ↔ ∀ j, j < listed.size → ex j = true → listed.getD j true = false := by
  unfold virgin
  rw [List.all_eq_true]
  constructor
  · intro h j hj he
    have := h j (List.mem_range.2 hj)
    rw [he] at this
    simpa using this
  · intro h j hj
    rw [List.mem_range] at hj
    cases he : ex j with
    | false => rfl
    | true => simp [h j hj he]
theorem virgin_back {ex : Nat → Bool} {listed : Array Bool} {i : Nat} (h : virgin ex (listed.setIfInBounds i true) = true) : virgin ex listed = true := by
  rw [virgin_iff] at h ⊢
  intro j hj he
  have h1 := h j (by simpa using hj) he
  by_cases e : i = j
  · subst e
    simp [hj] at h1
  · rwa [getD_set_ne true e] at h1
theorem virgin_on {ex : Nat → Bool} {listed : Array Bool} {i : Nat} (h : virgin ex listed = true) (hi : ex i = false) : virgin ex (listed.setIfInBounds i true) = true := by
  rw [virgin_iff] at h ⊢
  intro j hj he
  have hne : i ≠ j := fun e => by rw [← e, hi] at he; cases he
  rw [getD_set_ne true hne]
  exact h j (by simpa using hj) he
section
variable {P : Program} {ops : Array Oper} {Q : Exit → Act → World → Prop} {md : Region.Mode} {S0 S1 : World → Prop} {ex : Nat → Bool}
def wpAnyX (P : Program) (md : Region.Mode) (ops : Array Oper) (Q : Exit → Act → World → Prop) (S0 S1 : World → Prop) (ex : Nat → Bool) : Nat → Array Bool → Act → World → Prop
  | 0, listed, a, w => Region.ready md ops listed = [] ∧ Q .normal a w
  | fuel + 1, listed, a, w =>
    (Region.ready md ops listed = [] → Q .normal a w) ∧
    ∀ i ∈ Region.ready md ops listed, wpOp P ops Q i (fun a' w' => (S0 w' ∧ (virgin ex (listed.setIfInBounds i true) = true → S1 w')) ∧ wpAnyX P md ops Q S0 S1 ex fuel (listed.setIfInBounds i true) a' w') a w
theorem wpAny_of_X : ∀ (fuel : Nat) (listed : Array Bool) (a : Act) (w : World), wpAnyX P md ops Q S0 S1 ex fuel listed a w → wpAny P md ops Q fuel listed a w
  | 0, _, _, _, h => h
  | fuel + 1, _, _, _, h => ⟨h.1, fun i hi => wpOp_mono (fun a' w' h' => wpAny_of_X fuel _ a' w' h'.2) (h.2 i hi)⟩
theorem wpAnyX_first {i : Nat} {oi : Oper} {v : Value} {Sv : World → Prop} {inv : Array Bool → Prop} (hi : ops[i]? = some oi) (hsel : ∀ (j : Nat) (o : Oper) cs b, ops[j]? = some o → o.op ≠ .select cs b)
    (hxi : ex i = false) (hQ : ∀ c a w, Q (.panic c) (a.put oi.dst v) w → Q (.panic c) a w) (hV : ∀ listed w, inv listed → S0 w → (virgin ex listed = true → S1 w) → Sv w) (hinv : ∀ listed j, inv listed → i ∈ Region.ready md ops listed → j ∈ Region.ready md ops listed → inv (listed.setIfInBounds j true)) :
    ∀ (fuel : Nat) (listed : Array Bool) (a : Act) (w : World),
      (∀ j oj, ops[j]? = some oj → j ≠ i → listed.getD j true = false → (∀ e ∈ oj.after, Region.binds md e = true → e.on ≠ i) → oi.apart ops oj = true) →
      i ∈ Region.ready md ops listed → YieldsIf P ops Sv oi v a → inv listed → S0 w → (virgin ex listed = true → S1 w) →
      wpAnyX P md ops Q S0 S1 ex fuel (listed.setIfInBounds i true) (a.put oi.dst v) w → wpAnyX P md ops Q S0 S1 ex (fuel + 1) listed a w := by
  intro fuel
  induction fuel with
  | zero =>
    intro listed a w _ hr hy hn h0 h1 H
    refine ⟨fun h => (by rw [h] at hr; cases hr), fun j hj => ?_⟩
    by_cases hji : j = i
    · subst hji; exact hy.wpOp hi (hV _ _ hn h0 h1) ⟨⟨h0, fun h => h1 (virgin_back h)⟩, H⟩
    · have := ready_mono hj hji
      rw [H.1] at this
      cases this
  | succ fuel ih =>
    intro listed a w hfree hr hy hn h0 h1 H
    refine ⟨fun h => (by rw [h] at hr; cases hr), fun j hj => ?_⟩
    by_cases hji : j = i
    · subst hji; exact hy.wpOp hi (hV _ _ hn h0 h1) ⟨⟨h0, fun h => h1 (virgin_back h)⟩, H⟩
    · have h2 := H.2 j (ready_mono hj hji)
      obtain ⟨hjun, oj, hoj, hall⟩ := mem_ready.1 hj
      have hnot : ∀ e ∈ oj.after, Region.binds md e = true → e.on ≠ i := fun e he hb heq => by
        have h1 := hall e he hb
        have h0 := (mem_ready.1 hr).1
        rw [heq] at h1
        rcases Nat.lt_or_ge i listed.size with h' | h'
        · simp [h'] at h0 h1; rw [h0] at h1; cases h1
        · simp [Array.getElem?_eq_none h'] at h1
      have h2 := wpOp_putIf hoj (hfree j oj hoj hji hjun hnot) (fun cs b => hsel i oi cs b hi) (fun cs b => hsel j oj cs b hoj) hQ hy h2
      have hfree' : ∀ k ok, ops[k]? = some ok → k ≠ i → (listed.setIfInBounds j true).getD k true = false →
          (∀ e ∈ ok.after, Region.binds md e = true → e.on ≠ i) → oi.apart ops ok = true := fun k ok hk hki hun hno => by
        refine hfree k ok hk hki ?_ hno
        by_cases hjk : j = k
        · subst hjk; exact hjun
        · rw [getD_set_ne true hjk] at hun; exact hun
      have hc : (listed.setIfInBounds i true).setIfInBounds j true = (listed.setIfInBounds j true).setIfInBounds i true := Array.setIfInBounds_comm _ _ (Ne.symm hji)
      have hn' := hinv listed j hn hr hj
      have hvv : virgin ex (listed.setIfInBounds j true) = true → virgin ex ((listed.setIfInBounds i true).setIfInBounds j true) = true := fun h => by rw [hc]; exact virgin_on h hxi
      refine wpOp_mono (fun a' w' h3 => ⟨⟨h3.2.1.1, fun h => h3.2.1.2 (hvv h)⟩, ih (listed.setIfInBounds j true) a' w' hfree' (ready_mono hr (Ne.symm hji)) h3.1 hn' h3.2.1.1 (fun h => h3.2.1.2 (hvv h)) ?_⟩) h2
      rw [Array.setIfInBounds_comm _ _ hji]
      exact h3.2.2
theorem X_take0 (i : Nat) {oi : Oper} {v : Value} {fuel : Nat} {listed : Array Bool} {a : Act} {w : World} (hi : ops[i]? = some oi)
    (hs : Region.noSelect ops = true) (hf : Region.free md ops listed i = true) (hr : (Region.ready md ops listed).contains i = true) (hx : (!(ex i)) = true)
    (hQ : ∀ c a w, Q (.panic c) (a.put oi.dst v) w → Q (.panic c) a w) (hy : YieldsIf P ops S0 oi v a) (hS : S0 w ∧ (virgin ex listed = true → S1 w))
    (h : wpAnyX P md ops Q S0 S1 ex fuel (listed.setIfInBounds i true) (a.put oi.dst v) w) : wpAnyX P md ops Q S0 S1 ex (fuel + 1) listed a w :=
  wpAnyX_first (Sv := S0) (inv := fun _ => True) hi (Region.noSelect_spec hs) (by simpa using hx) hQ (fun _ _ _ h _ => h) (fun _ _ _ _ _ => trivial) fuel listed a w (Region.free_spec hi hf) (by simpa using hr) hy trivial hS.1 hS.2 h
def waitsX (md : Region.Mode) (ops : Array Oper) (ex : Nat → Bool) (i : Nat) : Bool := (List.range ops.size).all fun j => !(ex j) || waits md ops j i
theorem X_take1 (i : Nat) {oi : Oper} {v : Value} {fuel : Nat} {listed : Array Bool} {a : Act} {w : World} (hi : ops[i]? = some oi)
    (hs : Region.noSelect ops = true) (hf : Region.free md ops listed i = true) (hr : (Region.ready md ops listed).contains i = true) (hx : (!(ex i)) = true) (hw : waitsX md ops ex i = true) (hv : virgin ex listed = true)
    (hQ : ∀ c a w, Q (.panic c) (a.put oi.dst v) w → Q (.panic c) a w) (hy : YieldsIf P ops (fun w => S0 w ∧ S1 w) oi v a) (hS : S0 w ∧ (virgin ex listed = true → S1 w))
    (h : wpAnyX P md ops Q S0 S1 ex fuel (listed.setIfInBounds i true) (a.put oi.dst v) w) : wpAnyX P md ops Q S0 S1 ex (fuel + 1) listed a w :=
  wpAnyX_first (Sv := fun w => S0 w ∧ S1 w) (inv := fun l => virgin ex l = true) hi (Region.noSelect_spec hs) (by simpa using hx) hQ (fun _ _ hv h h1 => ⟨h, h1 hv⟩) (fun listed j hv hri hrj => by
    refine virgin_on hv ?_
    cases he : ex j with
    | false => rfl
    | true =>
      exfalso
      obtain ⟨_, oj, hoj, _⟩ := mem_ready.1 hrj
      have h1 := (List.all_eq_true.1 hw) j (List.mem_range.2 (Array.getElem?_eq_some_iff.1 hoj).1)
      rw [he] at h1
      exact waits_spec (last := j) (by simpa using h1) hri hrj) fuel listed a w (Region.free_spec hi hf) (by simpa using hr) hy hv hS.1 hS.2 h
theorem X_one (i : Nat) {o : Oper} {fuel : Nat} {listed : Array Bool} {a : Act} {w : World} (hi : ops[i]? = some o) (hr : Region.ready md ops listed = [i])
    (h : ∀ K, (∀ a' w', (S0 w' ∧ (virgin ex (listed.setIfInBounds i true) = true → S1 w')) ∧ wpAnyX P md ops Q S0 S1 ex fuel (listed.setIfInBounds i true) a' w' → K a' w') → if Region.wanted o (yielded ops a.tmps) = true then Oper.wp P o a w K Q else K (a.put o.dst undef) w) : wpAnyX P md ops Q S0 S1 ex (fuel + 1) listed a w := by
  refine ⟨fun h0 => absurd (hr ▸ h0) (by simp), fun j hj => ?_⟩
  rw [hr, List.mem_singleton] at hj
  subst hj
  have h1 := h _ (fun _ _ h => h)
  unfold wpOp
  simp only [hi]
  split
  · rename_i hw; rw [if_pos hw] at h1; exact .inl h1
  · rename_i hw; rw [if_neg hw] at h1; exact h1
theorem X_two (i j : Nat) {o o' : Oper} {fuel : Nat} {listed : Array Bool} {a : Act} {w : World} (hi : ops[i]? = some o) (hj : ops[j]? = some o') (hr : Region.ready md ops listed = [i, j])
    (h : ∀ K, (∀ a' w', (S0 w' ∧ (virgin ex (listed.setIfInBounds i true) = true → S1 w')) ∧ wpAnyX P md ops Q S0 S1 ex fuel (listed.setIfInBounds i true) a' w' → K a' w') → if Region.wanted o (yielded ops a.tmps) = true then Oper.wp P o a w K Q else K (a.put o.dst undef) w)
    (h' : ∀ K, (∀ a' w', (S0 w' ∧ (virgin ex (listed.setIfInBounds j true) = true → S1 w')) ∧ wpAnyX P md ops Q S0 S1 ex fuel (listed.setIfInBounds j true) a' w' → K a' w') → if Region.wanted o' (yielded ops a.tmps) = true then Oper.wp P o' a w K Q else K (a.put o'.dst undef) w) : wpAnyX P md ops Q S0 S1 ex (fuel + 1) listed a w := by
  refine ⟨fun h0 => absurd (hr ▸ h0) (by simp), fun k hk => ?_⟩
  rw [hr, List.mem_cons, List.mem_singleton] at hk
  rcases hk with rfl | rfl
  · have h1 := h _ (fun _ _ h => h)
    unfold wpOp
    simp only [hi]
    split
    · rename_i hw; rw [if_pos hw] at h1; exact .inl h1
    · rename_i hw; rw [if_neg hw] at h1; exact h1
  · have h1 := h' _ (fun _ _ h => h)
    unfold wpOp
    simp only [hj]
    split
    · rename_i hw; rw [if_pos hw] at h1; exact .inl h1
    · rename_i hw; rw [if_neg hw] at h1; exact h1
theorem X_done {fuel : Nat} {listed : Array Bool} {a : Act} {w : World} (hr : Region.ready md ops listed = []) (h : Q .normal a w) : wpAnyX P md ops Q S0 S1 ex fuel listed a w := by
  cases fuel with
  | zero => exact ⟨hr, h⟩
  | succ n => exact ⟨fun _ => h, by rw [hr]; simp⟩
end
theorem region_X {P : Program} {id : Nat} {ops : Array Oper} {Q : Exit → Act → World → Prop} (S0 S1 : World → Prop) (ex : Nat → Bool) {a : Act} {w : World} (hm : P.follows .mixedOrders = true)
    (h : wpAnyX P .any ops (OnlyOn Q) S0 S1 ex ops.size (Array.replicate ops.size false) a w.drew) : (Code.region id ops true).wp P Q a w :=
  Code.wp_mono OnlyOn.imp (wp_region_any hm (wpAny_of_X _ _ _ _ h))
structure Two (f : Nat → Nat) (w0 w : World) (B : Nat) (e1 e2 : TypeId) (z1 z2 : Nat) (kv rv : Value) (n m : Nat) (xs ys : List Value) : Prop where
  hk : w.ownsRow B e1 z1 kv n xs
  hr : w.ownsRow B e2 z2 rv m ys
  dis : ∀ a, ob kv a + ob rv a ≤ 1
  le : ∀ a, a < w0.heap.size → ob kv a + ob rv a ≤ f a
  fr : FR f w0 w
section
variable {f : Nat → Nat} {w0 w w' : World} {B : Nat} {e1 e2 : TypeId} {z1 z2 : Nat} {kv rv kv' : Value} {n m n' : Nat} {xs ys xs' : List Value}
theorem Two.swap (h : Two f w0 w B e1 e2 z1 z2 kv rv n m xs ys) : Two f w0 w B e2 e1 z2 z1 rv kv m n ys xs :=
  ⟨h.hr, h.hk, fun a => by have := h.dis a; omega, fun a ha => by have := h.le a ha; omega, h.fr⟩
theorem Two.ext (h : Two f w0 w B e1 e2 z1 z2 kv rv n m xs ys) (hx : Ext w w') : Two f w0 w' B e1 e2 z1 z2 kv rv n m xs ys :=
  ⟨hx.own h.hk, hx.own h.hr, h.dis, h.le, h.fr.trans (FR.of_ext (f := f) hx) (fun _ _ h => h)⟩
theorem Two.push (h : Two f w0 w B e1 e2 z1 z2 kv rv n m xs ys) (hg : w.grownBy w' kv.ownBlock) (ho : w'.ownsRow B e1 z1 kv' n' xs') (hv : kv'.ownBlock = kv.ownBlock ∨ ∀ k, kv'.ownBlock = some k → w.heap.size ≤ k) : Two f w0 w' B e1 e2 z1 z2 kv' rv n' m xs' ys := by
  have hsz := h.fr.2.2.2.1
  refine ⟨ho, own_ne h.hr hg (fun k hk e => ?_), fun a => ?_, fun a ha => ?_, ⟨h.fr.1.trans hg.os.symm, h.fr.2.1.trans hg.tape.symm, h.fr.2.2.1.trans hg.output.symm, Nat.le_trans hsz hg.size, fun k hk h0 => ?_⟩⟩
  · have h2 : kv.ownBlock = some k := by first | exact e | exact e.symm
    have := h.dis k
    rw [ob_some hk, ob_some h2] at this
    omega
  · have h1 := h.dis a
    rcases hv with h2 | h2
    · rw [ob_same h2]; exact h1
    · by_cases e : kv'.ownBlock = some a
      · rw [ob_some e, own_bound h.hr (h2 a e)]; exact Nat.le_refl _
      · rw [show ob kv' a = 0 from if_neg e]; omega
  · have h1 := h.le a ha
    rcases hv with h2 | h2
    · rw [ob_same h2]; exact h1
    · rw [show ob kv' a = 0 from if_neg (fun e => by have := h2 a e; omega)]; omega
  · refine (hg.block k (Nat.lt_of_lt_of_le hk hsz) (fun e => ?_)).trans (h.fr.2.2.2.2 k hk h0)
    have := h.le k hk
    have h2 : kv.ownBlock = some k := by first | exact e | exact e.symm
    rw [ob_some h2] at this
    omega
theorem Two.cell (h : Two f w0 w B e1 e2 z1 z2 kv rv n m xs ys) {ad : Addr} {u : Value} (hc : w0.cell? ad = some u) (h0 : f ad.block = 0) : w.cell? ad = some u :=
  (World.cell?_of_block (h.fr.2.2.2.2 ad.block (World.block_lt_of_cell? _ _ hc) h0)).trans hc
theorem Two.ob0 (h : Two f w0 w B e1 e2 z1 z2 kv rv n m xs ys) {a : Nat} (ha : w.heap.size ≤ a) : ob kv a = 0 ∧ ob rv a = 0 := ⟨own_bound h.hk ha, own_bound h.hr ha⟩
end
theorem Ext.trans' {w w1 w2 : World} {f : Nat → Nat} (h : Ext w w1) (hF : FR f w1 w2) (h0 : ∀ a, a < w.heap.size → f a = 0) : Ext w w2 :=
  ⟨hF.1.symm.trans h.os, hF.2.1.symm.trans h.tape, hF.2.2.1.symm.trans h.output, Nat.le_trans h.size hF.2.2.2.1, fun k hk => (hF.2.2.2.2 k (Nat.lt_of_lt_of_le hk h.size) (h0 k hk)).trans (h.block hk)⟩
theorem news_keep {w w' : World} {v : Value} {q : Nat} {es : List Value} (hg : w.grownBy w' v.ownBlock) (h : ∀ j u, es[j]? = some u → w.cell? ((⟨q, 0, none⟩ : Addr).add j) = some u) (h0 : ob v q = 0) : ∀ j u, es[j]? = some u → w'.cell? ((⟨q, 0, none⟩ : Addr).add j) = some u := fun j u hu => by
  have h1 := h j u hu
  rw [hg.cell_far _ (World.block_lt_of_cell? _ _ h1) (fun e => ob_zero h0 (by rw [block_add] at e; exact e.symm))]
  exact h1
theorem news_ext {w w' : World} {q : Nat} {es : List Value} (hx : Ext w w') (h : ∀ j u, es[j]? = some u → w.cell? ((⟨q, 0, none⟩ : Addr).add j) = some u) : ∀ j u, es[j]? = some u → w'.cell? ((⟨q, 0, none⟩ : Addr).add j) = some u := fun j u hu => hx.cell (h j u hu)
open Go.RowKit Go.Shelf
def okT (x : Te) : Bool := decide (x.key.size ≤ 100) && (decide (1 ≤ x.no) && decide (x.no ≤ 300))
theorem isEntry_any (x : Te) (w : World) : Calls Tryz.prog 51 #[.agg #[.string x.key, .int .i64 x.no]] w (Give (.bool (okT x)) w) := by
  unfold okT
  by_cases h1 : x.key.size ≤ 100
  · have d1 : (x.key.size : Int) ≤ 100 := by omega
    by_cases h2 : 1 ≤ x.no
    · by_cases h3 : x.no ≤ 300
      · rw [decide_eq_true h1, decide_eq_true h2, decide_eq_true h3]
        clear h1
        go_enter Tryz.func51, Tryz.ntmps51
        go_wp2
        go_ret
        exact ⟨rfl, (Ext.refl w).alloc_right _⟩
      · rw [decide_eq_true h1, decide_eq_true h2, decide_eq_false h3]
        clear h1
        go_enter Tryz.func51, Tryz.ntmps51
        go_wp2
        go_ret
        exact ⟨rfl, (Ext.refl w).alloc_right _⟩
    · rw [decide_eq_true h1, decide_eq_false h2]
      clear h1
      go_enter Tryz.func51, Tryz.ntmps51
      go_wp2
      go_ret
      exact ⟨rfl, (Ext.refl w).alloc_right _⟩
  · have d1 : ¬ (x.key.size : Int) ≤ 100 := by omega
    rw [decide_eq_false h1]
    clear h1
    go_enter Tryz.func51, Tryz.ntmps51
    go_wp2
    go_ret
    exact ⟨rfl, (Ext.refl w).alloc_right _⟩
structure TreeAt (lk : Int) (w : World) (t : Nat) (L : List Te) (h p : Nat) (T : BT) (fT : Nat → Nat) : Prop where
  ht : ∃ q, w.heap[t]? = some (.cells #[.int .i32 lk, .int .u32 q, .pointer (some ⟨p, 0, none⟩), .int .i64 L.length] 64 (0, 0))
  tn : TN w h p T fT
  nd : ∀ a, one1 t a + fT a ≤ 1
  sh : Shp h T
  l4 : T.l.length ≤ 4
  l1 : h ≠ 0 → 1 ≤ T.l.length
  fl : flat h T = L
  sr : Srt L
  ok : ∀ e ∈ L, okT e = true
  le : L.length ≤ 10000
def putEr (L : List Te) (x : Te) : Int := if okT x = true then if memT L x = true then 5 else if 1200 ≤ L.length then 3 else 0 else 1
def putLs (L : List Te) (x : Te) : List Te := if putEr L x = 0 then insT L x else L
def TreeTurned (lk : Int) (w w' : World) (t : Nat) (fT : Nat → Nat) (L : List Te) : Prop := ∃ h p T f', TreeAt lk w' t L h p T f' ∧ (∀ a, a < w.heap.size → f' a ≤ fT a) ∧ FR (fun a => one1 t a + fT a) w w'
def TreeTurnedX (X : Nat × BT) (lk : Int) (w w' : World) (t : Nat) (fT : Nat → Nat) (L : List Te) : Prop := ∃ p f', TreeAt lk w' t L X.1 p X.2 f' ∧ (∀ a, a < w.heap.size → f' a ≤ fT a) ∧ FR (fun a => one1 t a + fT a) w w'
theorem TreeTurnedX.out {X : Nat × BT} {lk : Int} {w w' : World} {t : Nat} {fT : Nat → Nat} {L : List Te} (H : TreeTurnedX X lk w w' t fT L) : TreeTurned lk w w' t fT L := by
  obtain ⟨p, f', h1, h2, h3⟩ := H
  exact ⟨X.1, p, X.2, f', h1, h2, h3⟩
def putX (h : Nat) (T : BT) (L : List Te) (x : Te) : Nat × BT := if putEr L x = 0 then if 4 < (putT h T x).l.length then (h + 1, splitT [] [T] 0 (putT h T x)) else (h, putT h T x) else (h, T)
theorem TreeAt.ext {lk : Int} {w w' : World} {t h p : Nat} {L : List Te} {T : BT} {fT : Nat → Nat} (H : TreeAt lk w t L h p T fT) (hx : Ext w w') : TreeAt lk w' t L h p T fT := by
  obtain ⟨q, hq⟩ := H.ht
  exact ⟨⟨q, (hx.block (Array.getElem?_eq_some_iff.1 hq).1).trans hq⟩, H.tn.ext hx, H.nd, H.sh, H.l4, H.l1, H.fl, H.sr, H.ok, H.le⟩
theorem TreeAt.same {lk : Int} {w w' : World} {t h p : Nat} {L : List Te} {T : BT} {fT : Nat → Nat} (H : TreeAt lk w t L h p T fT) (hx : Ext w w') : TreeTurned lk w w' t fT L := ⟨h, p, T, fT, H.ext hx, fun _ _ => Nat.le_refl _, FR.of_ext hx⟩
theorem TreeAt.sameX {lk : Int} {w w' : World} {t h p : Nat} {L : List Te} {T : BT} {fT : Nat → Nat} (H : TreeAt lk w t L h p T fT) (hx : Ext w w') : TreeTurnedX (h, T) lk w w' t fT L := ⟨p, fT, H.ext hx, fun _ _ => Nat.le_refl _, FR.of_ext hx⟩
theorem fr_set {w : World} {b j : Nat} {u : Value} : FR (one1 b) w (w.setCell ⟨b, j, none⟩ u) := ⟨rfl, rfl, rfl, by simp, fun k hk h0 => by
  have hne : b ≠ k := fun e => by rw [e, one_self] at h0; cases h0
  simp [World.setCell, Array.getElem?_modify, hne]⟩
theorem TN.setc {w : World} {h p b j : Nat} {T : BT} {f : Nat → Nat} {u : Value} (hT : TN w h p T f) (hb : f b = 0) : TN (w.setCell ⟨b, j, none⟩ u) h p T f := hT.frame fr_set (fun a ha => if_neg (fun e => by rw [e, hb] at ha; cases ha))
theorem tree_set2 {w : World} {t : Nat} {a b c d : Value} (h : w.heap[t]? = some (.cells #[a, b, c, d] 64 (0, 0))) (u : Value) : (w.setCell ⟨t, 2, none⟩ u).heap[t]? = some (.cells #[a, b, u, d] 64 (0, 0)) := by
  simp [World.setCell, Array.getElem?_modify, h]
theorem tree_set3 {w : World} {t : Nat} {a b c d : Value} (h : w.heap[t]? = some (.cells #[a, b, c, d] 64 (0, 0))) (u : Value) : (w.setCell ⟨t, 3, none⟩ u).heap[t]? = some (.cells #[a, b, c, u] 64 (0, 0)) := by
  simp [World.setCell, Array.getElem?_modify, h]
theorem tputX_any (lk : Int) (t : Nat) (L : List Te) (h p : Nat) (T : BT) (fT : Nat → Nat) (x : Te) (w : World) (H : TreeAt lk w t L h p T fT) : Calls Tryz.prog 47 #[.pointer (some ⟨t, 0, none⟩), .agg #[.string x.key, .int .i64 x.no]] w fun e w' => e = .returned (.int .i64 (putEr L x)) ∧ TreeTurnedX (putX h T L x) lk w w' t fT (putLs L x) := by
  have hsame := hid (fun w' (hx : Ext w w') => H.sameX hx)
  obtain ⟨⟨q, ht0⟩, tn, nd, sh, l4, l1, fl, sr, ok, le⟩ := H
  have hHas := hid (fun w' (hx : Ext w w') => has_any h p T fT w' x (tn.ext hx) sh (by rw [fl]; exact sr) (by omega))
  rw [fl] at hHas
  have ha := heap_alloc_new w (.cells #[.string x.key, .int .i64 x.no] 83)
  have hx1 := hid ((Ext.refl w).alloc_right (.cells #[.string x.key, .int .i64 x.no] 83))
  have z0 : (w.alloc (.cells #[.string x.key, .int .i64 x.no] 83)).cell? ⟨w.heap.size, 0, none⟩ = some (.string x.key) := by rw [Lib.cell_of_heap ha]; rfl
  have z1 : (w.alloc (.cells #[.string x.key, .int .i64 x.no] 83)).cell? ⟨w.heap.size, 1, none⟩ = some (.int .i64 x.no) := by rw [Lib.cell_of_heap ha]; rfl
  have c2 : w.cell? ⟨t, 2, none⟩ = some (.pointer (some ⟨p, 0, none⟩)) := by rw [Lib.cell_of_heap ht0]; rfl
  have c3 : w.cell? ⟨t, 3, none⟩ = some (.int .i64 L.length) := by rw [Lib.cell_of_heap ht0]; rfl
  have zt := hx1.out.cell c2
  have lt0 := World.block_lt_of_cell? _ _ zt
  dsimp only at lt0
  have hft0 : Hid (fT t = 0) := by have := nd t; rw [one_self] at this; unfold Hid; omega
  have hfb0 : Hid (fT w.heap.size = 0) := tn.bound _ (Nat.le_refl _)
  have hE : Hid (putEr L x = if okT x = true then if memT L x = true then 5 else if 1200 ≤ L.length then 3 else 0 else 1) := rfl
  have hLs : Hid (putLs L x = if putEr L x = 0 then insT L x else L) := rfl
  obtain ⟨X, hX⟩ : ∃ X, Hid (X = putX h T L x) := ⟨_, rfl⟩
  rw [← hX.out]
  have hXn : Hid (putEr L x ≠ 0 → X = (h, T)) := fun h1 => hX.out.trans (if_neg h1)
  have hXy : Hid (putEr L x = 0 → X = if 4 < (putT h T x).l.length then (h + 1, splitT [] [T] 0 (putT h T x)) else (h, putT h T x)) := fun h1 => hX.out.trans (if_pos h1)
  clear hX
  generalize putEr L x = er at *
  generalize putLs L x = ls at *
  replace ht0 := hid ht0
  clear ha c2
  go_enter Tryz.func47, Tryz.ntmps47
  go_upto_region 1 with fail
  obtain ⟨b, hb0⟩ : ∃ b, b = w.heap.size := ⟨_, rfl⟩
  rw [← hb0] at z0 z1 hfb0
  simp only [← hb0]
  replace hb0 := hid hb0
  generalize w.alloc (.cells #[.string x.key, .int .i64 x.no] 83) = w1 at *
  go_wp2_with fail
  refine (isEntry_any x w1).mono ?_
  rintro e' w2 ⟨rfl, hx2⟩
  replace z0 := hx2.cell z0
  replace z1 := hx2.cell z1
  replace zt := hx2.cell zt
  replace hx1 := hid (hx1.out.trans hx2)
  have lt2 := World.block_lt_of_cell? _ _ zt
  dsimp only at lt2
  clear hx2
  cases hok : okT x with
  | false =>
    have hE1 : Hid (er = 1) := by unfold Hid; rw [hE.out, hok]; rfl
    have hL1 : Hid (ls = L) := hLs.out.trans (if_neg (by rw [hE1.out]; decide))
    have hX1 := hid (hXn.out (by rw [hE1.out]; decide))
    clear hE hLs hok
    go_wp2
    go_ret
    exact ⟨ret_int hE1.out.symm, by rw [hL1.out, hX1.out]; exact hsame.out _ hx1.out⟩
  | true =>
    go_upto_region 3 with fail
    have I0 : (fun w' : World => w'.cell? ⟨t, 2, none⟩ = some (.pointer (some ⟨p, 0, none⟩)) ∧ w'.cell? ⟨b, 0, none⟩ = some (.string x.key) ∧ w'.cell? ⟨b, 1, none⟩ = some (.int .i64 x.no)) w2.drew := ⟨zt, z0, z1⟩
    refine region_J (fun w' : World => w'.cell? ⟨t, 2, none⟩ = some (.pointer (some ⟨p, 0, none⟩)) ∧ w'.cell? ⟨b, 0, none⟩ = some (.string x.key) ∧ w'.cell? ⟨b, 1, none⟩ = some (.int .i64 x.no)) 7 (by kernel_rfl) ?_
    replace hx1 := hid (hx1.out.drew_right)
    clear zt z0 z1
    generalize w2.drew = w2 at *
    refine JO 0 (v := ?vc0) I0 ?yc0 ?rc0
    case yc0 => (intro w h; obtain ⟨_, _, _⟩ := h; go_simp; with_reducible rfl)
    simp only [Act.put, lyA, lyB, lyC, lyD, lyE, lyF]
    refine JO 1 (v := ?vc1) I0 ?yc1 ?rc1
    case yc1 => (intro w h; obtain ⟨_, _, _⟩ := h; go_simp; with_reducible rfl)
    simp only [Act.put, lyA, lyB, lyC, lyD, lyE, lyF]
    refine JO 2 (v := ?vc2) I0 ?yc2 ?rc2
    case yc2 => (intro w h; obtain ⟨_, _, _⟩ := h; go_simp; with_reducible rfl)
    simp only [Act.put, lyA, lyB, lyC, lyD, lyE, lyF]
    refine JO 3 (v := ?vc3) I0 ?yc3 ?rc3
    case yc3 => (intro w h; obtain ⟨_, _, _⟩ := h; go_simp; with_reducible rfl)
    simp only [Act.put, lyA, lyB, lyC, lyD, lyE, lyF]
    refine JO 4 (v := ?vc4) I0 ?yc4 ?rc4
    case yc4 => (intro w h; obtain ⟨_, _, _⟩ := h; go_simp; with_reducible rfl)
    simp only [Act.put, lyA, lyB, lyC, lyD, lyE, lyF]
    refine J_one 5 rfl (by kernel_rfl) (fun K hK => ?_)
    go_simp
    refine (hHas.out w2 hx1.out).mono ?_
    rintro e' w3 ⟨rfl, hx3⟩
    have I3 : (fun w' : World => w'.cell? ⟨t, 2, none⟩ = some (.pointer (some ⟨p, 0, none⟩)) ∧ w'.cell? ⟨b, 0, none⟩ = some (.string x.key) ∧ w'.cell? ⟨b, 1, none⟩ = some (.int .i64 x.no)) w3 := ⟨hx3.cell I0.1, hx3.cell I0.2.1, hx3.cell I0.2.2⟩
    replace hx1 := hid (hx1.out.trans hx3)
    clear hx3 I0
    refine hK _ _ ⟨fun _ => I3, ?_⟩
    clear hK K
    try simp only [Act.put, lyA, lyB, lyC, lyD, lyE, lyF]
    refine J_one 6 rfl (by kernel_rfl) (fun K hK => ?_)
    go_simp
    refine hK _ _ ⟨fun _ => I3, ?_⟩
    clear hK K
    try simp only [Act.put, lyD, lyE, lyF]
    refine J_done (by kernel_rfl) (OnlyOn.normal ?_)
    cases hmm : memT L x with
    | true =>
      have hE1 : Hid (er = 5) := by unfold Hid; rw [hE.out, hok, hmm]; rfl
      have hL1 : Hid (ls = L) := hLs.out.trans (if_neg (by rw [hE1.out]; decide))
      have hX1 := hid (hXn.out (by rw [hE1.out]; decide))
      clear hE hLs hok hmm I3
      go_wp2
      go_ret
      exact ⟨ret_int hE1.out.symm, by rw [hL1.out, hX1.out]; exact hsame.out _ hx1.out⟩
    | false =>
      have c3' := hx1.out.cell c3
      have lt3 := World.block_lt_of_cell? _ _ I3.1
      dsimp only at lt3
      by_cases hfull : 1200 ≤ L.length
      · have hE1 : Hid (er = 3) := by unfold Hid; rw [hE.out, hok, hmm, if_pos rfl, if_neg (by decide), if_pos hfull]
        have hL1 : Hid (ls = L) := hLs.out.trans (if_neg (by rw [hE1.out]; decide))
        have hX1 := hid (hXn.out (by rw [hE1.out]; decide))
        have d9 : (1200 : Int) ≤ (L.length : Int) := by omega
        clear hE hLs hok hmm I3 hfull
        go_wp2
        go_ret
        exact ⟨ret_int hE1.out.symm, by rw [hL1.out, hX1.out]; exact hsame.out _ hx1.out⟩
      · have hE1 : Hid (er = 0) := by unfold Hid; rw [hE.out, hok, hmm, if_pos rfl, if_neg (by decide), if_neg hfull]
        have hL1 : Hid (ls = insT L x) := hLs.out.trans (if_pos hE1.out)
        have d9 : ¬ (1200 : Int) ≤ (L.length : Int) := by omega
        have hxL : x ∉ L := memT_false.1 hmm
        have hPut := hid (fun w' (hx : Ext w w') => put_any h p T fT w' x (tn.ext hx) (fun a => by have := nd a; omega) sh (by rw [fl]; exact sr) (by rw [fl]; exact hxL) l4)
        have hpo := putT_ok h T x sh (by rw [fl]; exact sr) (by rw [fl]; exact hxL)
        rw [fl] at hpo
        have hX1 := hid (hXy.out hE1.out)
        clear hXy hXn
        generalize putT h T x = T' at *
        obtain ⟨lk', kk⟩ := T'
        replace hX1 : Hid (X = if 4 < lk'.length then (h + 1, splitT [] [T] 0 (.nd lk' kk)) else (h, .nd lk' kk)) := hX1
        have hpo' := hid hpo
        have hT4 : Hid (T.l.length ≤ 4) := l4
        have hsh := hid sh
        have hok2 : Hid (∀ e ∈ insT L x, okT e = true) := fun e he => by
          rcases mem_ins.1 he with rfl | he
          · exact hok
          · exact ok e he
        have hsr2 := hid (srt_ins sr hxL)
        have hle2 : Hid ((insT L x).length ≤ 10000) := by unfold Hid; rw [len_ins]; omega
        have hln2 := hid (len_ins L x)
        clear hE hLs hok hmm hfull hsame hHas hpo sh l4 fl sr ok tn hxL
        go_upto_region 7 with fail
        have I0 : (fun w' : World => w'.cell? ⟨t, 2, none⟩ = some (.pointer (some ⟨p, 0, none⟩)) ∧ w'.cell? ⟨b, 0, none⟩ = some (.string x.key) ∧ w'.cell? ⟨b, 1, none⟩ = some (.int .i64 x.no)) w3.drew := I3
        refine region_J (fun w' : World => w'.cell? ⟨t, 2, none⟩ = some (.pointer (some ⟨p, 0, none⟩)) ∧ w'.cell? ⟨b, 0, none⟩ = some (.string x.key) ∧ w'.cell? ⟨b, 1, none⟩ = some (.int .i64 x.no)) 6 (by kernel_rfl) ?_
        replace hx1 := hid (hx1.out.drew_right)
        clear I3
        generalize w3.drew = w3 at *
        refine JO 0 (v := ?vd0) I0 ?yd0 ?rd0
        case yd0 => (intro w h; obtain ⟨_, _, _⟩ := h; go_simp; with_reducible rfl)
        simp only [Act.put, lyA, lyB, lyC, lyD, lyE, lyF]
        refine JO 1 (v := ?vd1) I0 ?yd1 ?rd1
        case yd1 => (intro w h; obtain ⟨_, _, _⟩ := h; go_simp; with_reducible rfl)
        simp only [Act.put, lyA, lyB, lyC, lyD, lyE, lyF]
        refine JO 2 (v := ?vd2) I0 ?yd2 ?rd2
        case yd2 => (intro w h; obtain ⟨_, _, _⟩ := h; go_simp; with_reducible rfl)
        simp only [Act.put, lyA, lyB, lyC, lyD, lyE, lyF]
        refine JO 3 (v := ?vd3) I0 ?yd3 ?rd3
        case yd3 => (intro w h; obtain ⟨_, _, _⟩ := h; go_simp; with_reducible rfl)
        simp only [Act.put, lyA, lyB, lyC, lyD, lyE, lyF]
        refine JO 4 (v := ?vd4) I0 ?yd4 ?rd4
        case yd4 => (intro w h; obtain ⟨_, _, _⟩ := h; go_simp; with_reducible rfl)
        simp only [Act.put, lyA, lyB, lyC, lyD, lyE, lyF]
        refine J_one 5 rfl (by kernel_rfl) (fun K hK => ?_)
        go_simp
        refine (hPut.out w3 hx1.out).mono ?_
        rintro e' w4 ⟨rfl, ht⟩
        have hft := ht
        obtain ⟨f4, tn4, nd4, le4, fr4⟩ := ht
        have hbc : ∀ (j : Addr) (u : Value), fT j.block = 0 → w3.cell? j = some u → w4.cell? j = some u := fun j u hj hu => by
          rw [World.cell?_of_block (fr4.2.2.2.2 j.block (World.block_lt_of_cell? _ _ hu) hj)]
          exact hu
        have I4 : (fun w' : World => w'.cell? ⟨t, 2, none⟩ = some (.pointer (some ⟨p, 0, none⟩)) ∧ w'.cell? ⟨b, 0, none⟩ = some (.string x.key) ∧ w'.cell? ⟨b, 1, none⟩ = some (.int .i64 x.no)) w4 := ⟨hbc _ _ hft0.out I0.1, hbc _ _ hfb0.out I0.2.1, hbc _ _ hfb0.out I0.2.2⟩
        have ht4 : Hid (w4.heap[t]? = some (.cells #[.int .i32 lk, .int .u32 q, .pointer (some ⟨p, 0, none⟩), .int .i64 L.length] 64 (0, 0))) := by
          have h0 := (hx1.out.block (Array.getElem?_eq_some_iff.1 ht0.out).1).trans ht0.out
          exact (fr4.2.2.2.2 t (Array.getElem?_eq_some_iff.1 h0).1 hft0.out).trans h0
        replace tn4 := hid tn4
        replace nd4 := hid nd4
        have le4' : Hid (∀ a, a < w.heap.size → f4 a ≤ fT a) := fun a ha => le4 a (Nat.lt_of_lt_of_le ha hx1.out.size)
        have fr4' : Hid (FR fT w w4) := (FR.of_ext hx1.out).trans fr4 (fun _ _ h => h)
        clear hft hbc fr4 le4 I0 hPut hx1
        refine hK _ _ ⟨fun _ => I4, ?_⟩
        clear hK K
        try simp only [Act.put, lyA, lyB, lyC, lyD, lyE, lyF]
        refine J_done (by kernel_rfl) (OnlyOn.normal ?_)
        obtain ⟨lv, kv, ps, g, u1, u2, u3, u5, u4⟩ := tn4.out.opn
        obtain ⟨A, c, rfl, hr⟩ := own_rd u2
        have hmr := Rd.max hr
        have zr := node_c0 u1
        have zt := I4.1
        have zn : w4.cell? ⟨t, 3, none⟩ = some (.int .i64 L.length) := by rw [Lib.cell_of_heap ht4.out]; rfl
        have zf := Lib.frozen_of_heap ht4.out 3
        have zf2 := Lib.frozen_of_heap ht4.out 2
        have lt4 := (Array.getElem?_eq_some_iff.1 ht4.out).1
        have lp4 := (Array.getElem?_eq_some_iff.1 u1).1
        have hw1 : IntKind.i64.wrap ((L.length : Int) + 1) = ((insT L x).length : Int) := by rw [IntWalk.i64_in _ (by omega), hln2.out]; omega
        have hf4t : Hid (f4 t = 0) := by have := le4'.out t (Array.getElem?_eq_some_iff.1 ht0.out).1; have := hft0.out; unfold Hid; omega
        have hlk := hid (show T.l.length ≤ lk'.length ∧ lk'.length ≤ T.l.length + 1 from hpo'.out.2.2)
        replace u1 := hid u1
        replace u2 := hid u2
        replace u3 := hid u3
        replace u4 := hid u4
        replace u5 := hid u5
        clear hr I4
        by_cases h5 : 4 < lk'.length
        · have d5 : (4 : Int) < (lk'.length : Int) := by omega
          replace hX1 := hid (hX1.out.trans (if_pos h5))
          have hl5 : Hid (lk'.length = 5) := by have := hlk.out; have := hT4.out; unfold Hid; omega
          go_upto_region 10 with fail
          obtain ⟨kb, hkb0⟩ : ∃ u, u = w4.heap.size := ⟨_, rfl⟩
          simp only [← hkb0]
          generalize hr0 : kb + 1 = r at *
          have hpt : t ≠ p := fun e => by have := hf4t.out; rw [u4.out t, ← e, one_self] at this; omega
          have h5s : (w4.setCell ⟨t, 2, none⟩ (.pointer (some ⟨r, 0, none⟩))).heap.size = kb := by rw [hkb0]; simp
          have ht5 := tree_set2 ht4.out (.pointer (some ⟨r, 0, none⟩))
          have tn5 := tn4.out.setc (j := 2) (u := .pointer (some ⟨r, 0, none⟩)) hf4t.out
          have v1 := heap_set_other u1.out hpt 2 (.pointer (some ⟨r, 0, none⟩))
          have v2 := own_set u2.out (fun e => by have := hf4t.out; rw [u4.out t, ob_some e] at this; omega) 2 (.pointer (some ⟨r, 0, none⟩))
          have v3 := own_set u3.out (fun e => by have := hf4t.out; rw [u4.out t, ob_some e] at this; omega) 2 (.pointer (some ⟨r, 0, none⟩))
          have v5 := u5.out.frame (fr_set (b := t) (j := 2) (u := .pointer (some ⟨r, 0, none⟩))) (fun a ha => if_neg (fun e => by have := hf4t.out; rw [u4.out t] at this; rw [e] at ha; omega))
          have fr5 : FR (fun a => one1 t a + fT a) w (w4.setCell ⟨t, 2, none⟩ (.pointer (some ⟨r, 0, none⟩))) := (fr4'.out.mono (fun k _ h0 => by show fT k = 0; omega)).trans (fr_set (b := t)) (fun k _ h0 => by show one1 t k = 0; omega)
          have hsz4 : w.heap.size ≤ kb := by have := fr4'.out.2.2.2.1; omega
          clear tn4 u1 u2 u3 u5 ht4 zt zn zf zf2 zr lt4 lp4 fr4'
          generalize w4.setCell ⟨t, 2, none⟩ (.pointer (some ⟨r, 0, none⟩)) = w5 at *
          have hxk := (Ext.refl w5).alloc_right (.cells #[.pointer (some ⟨p, 0, none⟩)] 51)
          have hkb := heap_alloc_new w5 (.cells #[.pointer (some ⟨p, 0, none⟩)] 51)
          have hxr := (Ext.refl (w5.alloc (.cells #[.pointer (some ⟨p, 0, none⟩)] 51))).alloc_right (.cells #[.slice none 0 0, .slice (some ⟨kb, 0, none⟩) 1 1] 55)
          have hrb := heap_alloc_new (w5.alloc (.cells #[.pointer (some ⟨p, 0, none⟩)] 51)) (.cells #[.slice none 0 0, .slice (some ⟨kb, 0, none⟩) 1 1] 55)
          rw [World.size_alloc, h5s, hr0] at hrb
          rw [h5s] at hkb
          have hx57 := hxk.trans hxr
          have ht7 := (hx57.block (Array.getElem?_eq_some_iff.1 ht5).1).trans ht5
          have hkb7 := (hxr.block (Array.getElem?_eq_some_iff.1 hkb).1).trans hkb
          replace v1 := (hx57.block (Array.getElem?_eq_some_iff.1 v1).1).trans v1
          replace v2 := hx57.own v2
          replace v3 := hx57.own v3
          have b5 : ∀ a, kb ≤ a → f4 a = 0 := fun a ha => tn5.bound a (by omega)
          replace v5 := v5.frame (FR.of_ext (f := fun _ => 0) hx57) (fun _ _ => rfl)
          replace fr5 := fr5.trans (FR.of_ext (f := fun _ => 0) hx57) (fun _ _ _ => rfl)
          clear hxk hxr hkb ht5
          have hokv : ((w5.alloc (.cells #[.pointer (some ⟨p, 0, none⟩)] 51)).alloc (.cells #[.slice none 0 0, .slice (some ⟨kb, 0, none⟩) 1 1] 55)).ownsRow 0 51 1 (.slice (some ⟨kb, 0, none⟩) 1 1) 1 (ptrs [p]) := ⟨rfl, .inr ⟨kb, 1, _, rfl, Nat.zero_le _, hkb7, Nat.le_refl _, by decide, rfl, rfl⟩⟩
          have h7s : ((w5.alloc (.cells #[.pointer (some ⟨p, 0, none⟩)] 51)).alloc (.cells #[.slice none 0 0, .slice (some ⟨kb, 0, none⟩) 1 1] 55)).heap.size = kb + 2 := by simp [h5s]
          generalize (w5.alloc (.cells #[.pointer (some ⟨p, 0, none⟩)] 51)).alloc (.cells #[.slice none 0 0, .slice (some ⟨kb, 0, none⟩) 1 1] 55) = w7 at *
          have zt7 : w7.cell? ⟨t, 2, none⟩ = some (.pointer (some ⟨r, 0, none⟩)) := by rw [Lib.cell_of_heap ht7]; rfl
          have lt7 := (Array.getElem?_eq_some_iff.1 ht7).1
          have lr7 := (Array.getElem?_eq_some_iff.1 hrb).1
          have hnil : ∀ a, ob (.slice none 0 0) a = 0 := fun a => if_neg (fun e => by cases e)
          have hobk : ∀ a, ob (.slice (some ⟨kb, 0, none⟩) 1 1) a = one1 kb a := fun a => by
            unfold ob one1
            by_cases e : a = kb
            · rw [if_pos e, if_pos (by rw [e]; rfl)]
            · rw [if_neg e, if_neg]
              intro e2
              have h9 : kb = a := by simpa [Value.ownBlock] using e2
              exact e h9.symm
          have hsum : Hid (∀ a, one1 r a + ob (.slice none 0 0) a + ob (.slice (some ⟨kb, 0, none⟩) 1 1) a + (0 + (one1 p a + ob (.slice A lk'.length c) a + ob kv a + g a) + 0) ≤ 1) := fun a => by
            have h4 := nd4.out a
            have h40 := u4.out a
            rw [hnil a, hobk a]
            by_cases ha : a < kb
            · rw [show one1 r a = 0 from if_neg (by omega), show one1 kb a = 0 from if_neg (by omega)]; omega
            · have h6 := b5 a (by omega)
              have : one1 r a + one1 kb a ≤ 1 := by unfold one1; split <;> split <;> omega
              omega
          have hSp := hid (split_any (fun a => one1 r a + ob (.slice none 0 0) a + ob (.slice (some ⟨kb, 0, none⟩) 1 1) a + one1 p a + ob (.slice A lk'.length c) a + ob kv a) r p 0 [] lk' [p] ps _ _ _ _ w7 hrb v1 (World.ownsRow_nil _ _ _ _) hokv (by rw [hl5.out] at v2 ⊢; exact v2) v3 rfl (Nat.le_refl _) (by decide) (by show 1 ≤ 10; decide) hl5.out (by
            have h1 := v5.len
            have h2 := hpo'.out.1
            cases h with
            | zero => left; rw [h1]; have : kk = [] := h2; rw [this]; rfl
            | succ h => right; rw [h1]; have : kk.length = lk'.length + 1 := h2.1; have := hl5.out; omega) (fun a => by have := hsum.out a; omega) (fun _ => rfl))
          replace hnil := hid hnil
          replace hobk := hid hobk
          replace v5 := hid v5
          replace ht7 := hid ht7
          replace fr5 := hid fr5
          have b5' := hid b5
          clear b5 tn5 v1 v2 v3 hrb hkb7 hokv hx57
          go_wp2_with fail
          refine hSp.out.mono ?_
          rintro e' w8 ⟨rfl, r2, lv', kv', lq', kq', lr, kr, tri⟩
          have tri' := hid tri
          have hsz7 : t < w.heap.size := (Array.getElem?_eq_some_iff.1 ht0.out).1
          have hT8 := split_done (w := w7) (w5 := w7) (w6 := w8) (h := h) (p := r) (q := p) (r := r2) (i := 0) (l := []) (lk := lk') (ks := [T]) (kk := kk) (ps := [p]) (pk := ps) (lv := .slice none 0 0) (kv := .slice (some ⟨kb, 0, none⟩) 1 1) (lq := .slice A lk'.length c) (kq := kv) (f := fun a => one1 r a + one1 kb a + f4 a) (g0 := fun _ => 0) (gk := g) (g2 := fun _ => 0) (by show 0 < 1; decide) hl5.out (FR.of_ext (Ext.refl w7)) rfl (fun a _ => by
            have h1 := u4.out a
            rw [hnil.out a, hobk.out a]
            show one1 r a + 0 + one1 kb a + (0 + (one1 p a + ob (.slice A lk'.length c) a + ob kv a + g a) + 0) ≤ one1 r a + one1 kb a + f4 a
            omega) hsum.out (show Ks _ [] [] _ from fun _ => rfl) (show Ks _ [] [] _ from fun _ => rfl) v5.out (fun _ => rfl) tri (Nat.le_refl _)
          clear tri hSp
          obtain ⟨f8, tn8, nd8, le8, fr8⟩ := hT8
          have hT4' : Hid (T.l.length = 4) := by have := hlk.out; have := hT4.out; have := hl5.out; unfold Hid; omega
          have hsp := splitT_ok (h := h) (l := []) (ks := [T]) (i := 0) (K := .nd lk' kk) ⟨rfl, fun k hk => by
            rcases List.mem_cons.1 hk with rfl | hk
            · exact ⟨by rw [hT4'.out]; decide, by rw [hT4'.out]; decide, hsh.out⟩
            · cases hk⟩ (Nat.le_refl _) hpo'.out.1 hl5.out
          have hlt1 : (splitT [] [T] 0 (.nd lk' kk)).l.length = 1 := rfl
          generalize splitT [] [T] 0 (.nd lk' kk) = T8 at *
          have hfl8 : flat (h + 1) T8 = insT L x := by
            rw [hsp.2, hpo'.out.2.1]
            simp [wvp, tlW]
          have hrt : t ≠ r := by omega
          have hkt : t ≠ kb := by omega
          have hF7 : one1 r t + one1 kb t + f4 t = 0 := by rw [show one1 r t = 0 from if_neg hrt, show one1 kb t = 0 from if_neg hkt, hf4t.out]
          have hf8t : Hid (f8 t = 0) := by have h1 : f8 t ≤ one1 r t + one1 kb t + f4 t := le8 t lt7; unfold Hid; omega
          have ht8 := (fr8.2.2.2.2 t lt7 hF7).trans ht7.out
          have lt8 := (Array.getElem?_eq_some_iff.1 ht8).1
          have zn8 : w8.cell? ⟨t, 3, none⟩ = some (.int .i64 L.length) := by rw [Lib.cell_of_heap ht8]; rfl
          have zf8 := Lib.frozen_of_heap ht8 3
          have hfin : Hid (TreeTurnedX X lk w (w8.setCell ⟨t, 3, none⟩ (.int .i64 (insT L x).length)) t fT ls) := by
            rw [hL1.out, hX1.out]
            refine ⟨r, f8, ⟨⟨q, tree_set3 ht8 _⟩, tn8.setc hf8t.out, fun a => ?_, hsp.1, by rw [hlt1]; decide, fun _ => by rw [hlt1]; exact Nat.le_refl _, hfl8, hsr2.out, hok2.out, hle2.out⟩, fun a ha => ?_, ?_⟩
            · by_cases e : a = t
              · rw [e, hf8t.out, one_self]; exact Nat.le_refl _
              · rw [show one1 t a = 0 from if_neg e]; have := nd8 a; omega
            · have h1 := le8 a (by omega)
              have h2 := le4'.out a ha
              have h3 : one1 r a + one1 kb a + f4 a = f4 a := by rw [show one1 r a = 0 from if_neg (by omega), show one1 kb a = 0 from if_neg (by omega)]; omega
              have h4 : f8 a ≤ one1 r a + one1 kb a + f4 a := h1
              omega
            · refine (fr5.out.trans fr8 (fun k hk h0 => ?_)).trans (fr_set (b := t)) (fun k _ h0 => ?_)
              · have h2 := le4'.out k hk
                have h0' : one1 t k + fT k = 0 := h0
                show one1 r k + one1 kb k + f4 k = 0
                rw [show one1 r k = 0 from if_neg (by omega), show one1 kb k = 0 from if_neg (by omega)]; omega
              · have h0' : one1 t k + fT k = 0 := h0
                omega
          clear fr8 le8 nd8 tn8 hsp hfl8 hlt1 hsum hrt hkt hF7 ht8 hsz4 b5' v5
          go_wp2_with fail
          go_ret
          exact ⟨ret_int hE1.out.symm, hfin.out⟩
        · have d5 : ¬ (4 : Int) < (lk'.length : Int) := by omega
          replace hX1 := hid (hX1.out.trans (if_neg h5))
          have hfin : Hid (TreeTurnedX X lk w (w4.setCell ⟨t, 3, none⟩ (.int .i64 (insT L x).length)) t fT ls) := by
            rw [hL1.out, hX1.out]
            refine ⟨p, f4, ⟨⟨q, tree_set3 ht4.out _⟩, tn4.out.setc hf4t.out, fun a => ?_, hpo'.out.1, by show lk'.length ≤ 4; omega, fun h0 => ?_, hpo'.out.2.1, hsr2.out, hok2.out, hle2.out⟩, le4'.out, ?_⟩
            · by_cases e : a = t
              · rw [e, hf4t.out, one_self]; exact Nat.le_refl _
              · rw [show one1 t a = 0 from if_neg e]; have := nd4.out a; omega
            · show 1 ≤ lk'.length
              have := hlk.out.1
              have := l1 h0
              omega
            · exact (fr4'.out.mono (fun k _ h0 => by show fT k = 0; omega)).trans (fr_set (b := t)) (fun k _ h0 => by show one1 t k = 0; omega)
          go_wp2_with fail
          go_ret
          exact ⟨ret_int hE1.out.symm, hfin.out⟩
open Go.RowKit Go.Shelf Go.MuLone
theorem tree_set0 {w : World} {t : Nat} {a b c d : Value} (h : w.heap[t]? = some (.cells #[a, b, c, d] 64 (0, 0))) (u : Value) : (w.setCell ⟨t, 0, none⟩ u).heap[t]? = some (.cells #[u, b, c, d] 64 (0, 0)) := by
  simp [World.setCell, Array.getElem?_modify, h]
section
variable {lk lk' : Int} {w w' : World} {t h p : Nat} {L : List Te} {T : BT} {fT : Nat → Nat}
theorem TreeAt.ft (H : TreeAt lk w t L h p T fT) : fT t = 0 := by have := H.nd t; rw [one_self] at this; omega
theorem TreeAt.lock (H : TreeAt lk w t L h p T fT) (lk' : Int) : TreeAt lk' (w.setCell ⟨t, 0, none⟩ (.int .i32 lk')) t L h p T fT := by
  obtain ⟨q, hq⟩ := H.ht
  exact ⟨⟨q, tree_set0 hq _⟩, H.tn.setc H.ft, H.nd, H.sh, H.l4, H.l1, H.fl, H.sr, H.ok, H.le⟩
theorem TreeAt.c0 (H : TreeAt lk w t L h p T fT) : w.cell? ⟨t, 0, none⟩ = some (.int .i32 lk) := by obtain ⟨q, hq⟩ := H.ht; rw [Lib.cell_of_heap hq]; rfl
theorem TreeAt.c2 (H : TreeAt lk w t L h p T fT) : w.cell? ⟨t, 2, none⟩ = some (.pointer (some ⟨p, 0, none⟩)) := by obtain ⟨q, hq⟩ := H.ht; rw [Lib.cell_of_heap hq]; rfl
theorem TreeAt.free (H : TreeAt lk w t L h p T fT) (k : Nat) : w.frozen? ⟨t, k, none⟩ = false := by obtain ⟨q, hq⟩ := H.ht; exact Lib.frozen_of_heap hq k
theorem TreeAt.lt (H : TreeAt lk w t L h p T fT) : t < w.heap.size := by obtain ⟨q, hq⟩ := H.ht; exact (Array.getElem?_eq_some_iff.1 hq).1
theorem TreeTurned.unlock {L' : List Te} (H : TreeTurned 1 (w.setCell ⟨t, 0, none⟩ (.int .i32 1)) w' t fT L') : TreeTurned 0 w (w'.setCell ⟨t, 0, none⟩ (.int .i32 0)) t fT L' := by
  obtain ⟨h, p, T, f', H1, H2, H3⟩ := H
  refine ⟨h, p, T, f', H1.lock 0, fun a ha => H2 a (by simpa using ha), ?_⟩
  refine ((fr_set (b := t) (j := 0) (u := .int .i32 1)).mono (fun k _ h0 => ?_)).trans (H3.trans (fr_set (b := t)) (fun k _ h0 => ?_)) (fun k _ h0 => h0)
  · have h1 : one1 t k + fT k = 0 := h0; omega
  · have h1 : one1 t k + fT k = 0 := h0; omega
theorem TreeTurnedX.unlock {X : Nat × BT} {L' : List Te} (H : TreeTurnedX X 1 (w.setCell ⟨t, 0, none⟩ (.int .i32 1)) w' t fT L') : TreeTurnedX X 0 w (w'.setCell ⟨t, 0, none⟩ (.int .i32 0)) t fT L' := by
  obtain ⟨p, f', H1, H2, H3⟩ := H
  refine ⟨p, f', H1.lock 0, fun a ha => H2 a (by simpa using ha), ?_⟩
  refine ((fr_set (b := t) (j := 0) (u := .int .i32 1)).mono (fun k _ h0 => ?_)).trans (H3.trans (fr_set (b := t)) (fun k _ h0 => ?_)) (fun k _ h0 => h0)
  · have h1 : one1 t k + fT k = 0 := h0; omega
  · have h1 : one1 t k + fT k = 0 := h0; omega
theorem Ext.of_FR {f : Nat → Nat} (h : FR f w w') (h0 : ∀ a, a < w.heap.size → f a = 0) : Ext w w' := ⟨h.1.symm, h.2.1.symm, h.2.2.1.symm, h.2.2.2.1, fun k hk => h.2.2.2.2 k hk (h0 k hk)⟩
theorem TreeAt.back (H : TreeAt 0 w t L h p T fT) {u : Int} (hx : Ext (w.setCell ⟨t, 0, none⟩ (.int .i32 u)) w') : Ext w (w'.setCell ⟨t, 0, none⟩ (.int .i32 0)) := by
  obtain ⟨q, hq⟩ := H.ht
  have hb := (hx.block (k := t) (by simpa using H.lt)).trans (tree_set0 hq (.int .i32 u))
  refine ⟨hx.os, hx.tape, hx.output, ?_, fun k hk => ?_⟩
  · have := hx.size
    simp at this
    simpa using this
  · by_cases e : k = t
    · subst e
      rw [tree_set0 hb, hq]
    · have hne : t ≠ k := fun h => e h.symm
      rw [show (w'.setCell ⟨t, 0, none⟩ (.int .i32 0)).heap[k]? = w'.heap[k]? by simp [World.setCell, Array.getElem?_modify, hne], hx.block (k := k) (by simpa using hk)]
      simp [World.setCell, Array.getElem?_modify, hne]
end
theorem New_any (w : World) : Calls Tryz.prog 7 #[] w fun e w' => ∃ t, e = .returned (.pointer (some ⟨t, 0, none⟩)) ∧ w.heap.size ≤ t ∧ Ext w w' ∧ ∃ p fT, TreeAt 0 w' t [] 0 p (.nd [] []) fT ∧ ∀ a, a < w.heap.size → fT a = 0 := by
  have hx := hid (((Ext.refl w).alloc_right (.cells #[.slice none 0 0, .slice none 0 0] 55)).alloc_right (.cells #[.int .i32 0, .int .u32 0, .pointer (some ⟨w.heap.size, 0, none⟩), .int .i64 0] 64))
  have hp0 := heap_alloc_new w (.cells #[.slice none 0 0, .slice none 0 0] 55)
  have ht := heap_alloc_new (w.alloc (.cells #[.slice none 0 0, .slice none 0 0] 55)) (.cells #[.int .i32 0, .int .u32 0, .pointer (some ⟨w.heap.size, 0, none⟩), .int .i64 0] 64)
  have hp := (((Ext.refl (w.alloc (.cells #[.slice none 0 0, .slice none 0 0] 55))).alloc_right (.cells #[.int .i32 0, .int .u32 0, .pointer (some ⟨w.heap.size, 0, none⟩), .int .i64 0] 64)).block (Array.getElem?_eq_some_iff.1 hp0).1).trans hp0
  rw [World.size_alloc] at ht
  have hT : Hid (TreeAt 0 ((w.alloc (.cells #[.slice none 0 0, .slice none 0 0] 55)).alloc (.cells #[.int .i32 0, .int .u32 0, .pointer (some ⟨w.heap.size, 0, none⟩), .int .i64 0] 64)) (w.heap.size + 1) [] 0 w.heap.size (.nd [] []) (one1 w.heap.size)) := by
    have hnil : ∀ a, ob (.slice none 0 0) a = 0 := fun a => if_neg (by intro e; cases e)
    refine ⟨⟨0, ht⟩, ⟨rfl, _, _, hp, World.ownsRow_nil _ _ _ _, World.ownsRow_nil _ _ _ _, fun a => by rw [hnil a]; rfl⟩, fun a => ?_, rfl, Nat.zero_le _, fun h => absurd rfl h, rfl, List.Pairwise.nil, fun e h => (by cases h), Nat.zero_le _⟩
    by_cases e : a = w.heap.size
    · rw [show one1 (w.heap.size + 1) a = 0 from if_neg (by omega), show one1 w.heap.size a = 1 from if_pos e]; omega
    · rw [show one1 w.heap.size a = 0 from if_neg e]; unfold one1; split <;> omega
  clear hp0 ht hp
  go_enter Tryz.func7, Tryz.ntmps7
  go_wp2
  go_ret
  exact ⟨w.heap.size + 1, rfl, by omega, hx.out, w.heap.size, one1 w.heap.size, hT.out, fun a ha => if_neg (by omega)⟩
theorem PutX_any (t : Nat) (L : List Te) (h p : Nat) (T : BT) (fT : Nat → Nat) (s : ByteArray) (n : Int) (w : World) (H : TreeAt 0 w t L h p T fT) : Calls Tryz.prog 16 #[.pointer (some ⟨t, 0, none⟩), .string s, .int .i64 n] w fun e w' => e = .returned (.int .i64 (putEr L ⟨s, n⟩)) ∧ TreeTurnedX (putX h T L ⟨s, n⟩) 0 w w' t fT (putLs L ⟨s, n⟩) := by
  have c0 := H.c0
  have f0 := H.free 0
  have h1 := hid (H.lock 1)
  have hP := hid (tputX_any 1 t L h p T fT ⟨s, n⟩ _ (H.lock 1))
  generalize putEr L ⟨s, n⟩ = er at *
  generalize putLs L ⟨s, n⟩ = ls at *
  obtain ⟨X, hX⟩ : ∃ X, Hid (X = putX h T L ⟨s, n⟩) := ⟨_, rfl⟩
  rw [← hX.out] at hP ⊢
  clear hX
  go_enter_defers Tryz.func16, Tryz.ntmps16
  go_wp2_with (go_at_call 41; refine (lock_free muLib ⟨t, 0, none⟩ _ c0 f0).mono ?_; rintro e w' ⟨rfl, rfl⟩)
  refine hP.out.mono ?_
  rintro e w2 ⟨rfl, h2⟩
  have h2' := hid h2
  obtain ⟨p', f', H1, -, -⟩ := h2
  have k0 := hid H1.c0
  have kf := hid (H1.free 0)
  clear H1
  go_wp2
  refine leaves_cons (f := 42) (args := #[.pointer (some ⟨t, 0, none⟩)]) (by simp) (by simp [go_sem]) ?_
  refine (unlock_deferred muLib ⟨t, 0, none⟩ .returning _ k0.out kf.out).mono ?_
  rintro e u' w'' ⟨rfl, rfl, rfl⟩
  exact ⟨_, results_tmp rfl _ _ _, rfl, h2'.out.unlock⟩
theorem Put_any (t : Nat) (L : List Te) (h p : Nat) (T : BT) (fT : Nat → Nat) (s : ByteArray) (n : Int) (w : World) (H : TreeAt 0 w t L h p T fT) : Calls Tryz.prog 16 #[.pointer (some ⟨t, 0, none⟩), .string s, .int .i64 n] w fun e w' => e = .returned (.int .i64 (putEr L ⟨s, n⟩)) ∧ TreeTurned 0 w w' t fT (putLs L ⟨s, n⟩) :=
  (PutX_any t L h p T fT s n w H).mono fun _ _ ⟨he, hx⟩ => ⟨he, hx.out⟩
theorem entries_any (t : Nat) (L : List Te) (h p : Nat) (T : BT) (fT : Nat → Nat) (w : World) (H : TreeAt 0 w t L h p T fT) : Calls Tryz.prog 46 #[.pointer (some ⟨t, 0, none⟩)] w fun e w' => ∃ v, e = .returned v ∧ w'.ownsRow w.heap.size 83 2 v L.length (tents L) ∧ Ext w w' := by
  have c0 := H.c0
  have f0 := H.free 0
  have h1 := hid (H.lock 1)
  have hnil : ∀ a, ob (.slice none 0 0) a = 0 := fun a => if_neg (by intro e; cases e)
  have hA := hid (all_any h p T fT w.heap.size (.slice none 0 0) [] (w.setCell ⟨t, 0, none⟩ (.int .i32 1)) h1.out.tn h1.out.sh.w (fun a ha => by rw [hnil a] at ha; omega) (World.ownsRow_nil _ _ _ _) (by simp) (by rw [h1.out.fl]; have := h1.out.le; show 0 + L.length ≤ 100000; omega))
  rw [h1.out.fl, List.nil_append] at hA
  have hb := hid (fun w' (hx : Ext (w.setCell ⟨t, 0, none⟩ (.int .i32 1)) w') => H.back hx)
  have hlt := hid H.lt
  have c2 := h1.out.c2
  have l1 : t < (w.setCell ⟨t, 0, none⟩ (.int .i32 1)).heap.size := by simpa using H.lt
  replace hnil := hid hnil
  clear H
  go_enter_defers Tryz.func46, Tryz.ntmps46
  go_wp2_with (go_at_call 41; refine (lock_free muLib ⟨t, 0, none⟩ _ c0 f0).mono ?_; rintro e w' ⟨rfl, rfl⟩)
  generalize w.setCell ⟨t, 0, none⟩ (.int .i32 1) = w1 at *
  go_wp2_with fail
  refine hA.out.mono ?_
  rintro e w2 ⟨v, rfl, own2, gr2⟩
  have hx2 := Ext.of_FR gr2.1 (fun a _ => hnil.out a)
  have own2' := hid own2
  have k0 := hid (hx2.cell h1.out.c0)
  have kf : Hid (w2.frozen? ⟨t, 0, none⟩ = false) := (hx2.frozen (p := ⟨t, 0, none⟩) l1).trans (h1.out.free 0)
  have hx3 := hid (hb.out w2 hx2)
  clear own2 gr2 hx2
  go_wp2
  refine leaves_cons (f := 42) (args := #[.pointer (some ⟨t, 0, none⟩)]) (by simp) (by simp [go_sem]) ?_
  refine (unlock_deferred muLib ⟨t, 0, none⟩ .returning _ k0.out kf.out).mono ?_
  rintro e u' w'' ⟨rfl, rfl, rfl⟩
  exact ⟨_, results_tmp rfl _ _ _, _, rfl, own_set own2'.out (fun e => by have := own_freshB own2'.out _ e; have := hlt.out; omega) 0 _, hx3.out⟩
theorem Len_any (t : Nat) (L : List Te) (h p : Nat) (T : BT) (fT : Nat → Nat) (w : World) (H : TreeAt 0 w t L h p T fT) : Calls Tryz.prog 18 #[.pointer (some ⟨t, 0, none⟩)] w (Give (.int .i64 L.length) w) := by
  have hE := hid (entries_any t L h p T fT w H)
  clear H
  go_enter Tryz.func18, Tryz.ntmps18
  go_wp2_with fail
  refine hE.out.mono ?_
  rintro e w2 ⟨v, rfl, own2, hx⟩
  obtain ⟨A, c, rfl, -⟩ := own_form own2
  clear own2
  go_wp2
  go_ret
  exact ⟨rfl, hx⟩
end Go.Proofs.YtpijfiaecicpfaaGreat
